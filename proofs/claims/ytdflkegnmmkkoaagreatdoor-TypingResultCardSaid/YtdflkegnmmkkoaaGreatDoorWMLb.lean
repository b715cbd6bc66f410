/- A part of the proof. -/
import Derived.Test.YtdflkegnmmkkoaaGreatDoorWMLa
import Derived.IntWalk
set_option linter.unusedVariables false
set_option linter.unusedSimpArgs false
set_option maxRecDepth 100000
set_option maxHeartbeats 32000000
namespace Go.Proofs.YtdflkegnmmkkoaaGreatDoor
open Go.RowKit
theorem zAM{α:Type}(L:List α)(R:List (List α))(d i:Nat):get2 (L::R) (d+1) i=get2 R d i:=rfl
theorem zBS{α:Type}(L:List α)(R:List (List α))(i:Nat):get2 (L::R) 0 i=L[i]?:=rfl
theorem zAy{α:Type}(L:List α)(R:List (List α))(d i:Nat)(o:α):set2 (L::R) (d+1) i o=L::set2 R d i o:=by simp[set2]
theorem zFp{α:Type}(L:List α)(R:List (List α))(i:Nat)(o:α):set2 (L::R) 0 i o=L.set i o::R:=by simp[set2]
theorem zu{α:Type}(S:List (List α))(d i:Nat)(o:α):get2 (set2 S d i o) d i=(get2 S d i).map fun _=>o:=by
 cases h:get2 S d i with
 |some x=>rw[zQ _ h];simp
 |none=>
  unfold get2 set2 at*
  rcases Nat.lt_or_ge d S.length with hd|hd
  .rw[List.getElem?_set_self hd]
   rw[List.getElem?_eq_getElem hd]at h;simp only[Option.bind_some]at h ⊢;rw[List.getElem?_eq_none_iff]at h;rw[List.getElem?_eq_none (by simp[List.getD,hd];exact h)]
   rfl
  rw[List.getElem?_eq_none (by simpa using hd)];rfl
theorem zBT{α:Type}(S:List (List α))(d i:Nat)(a b:α):set2 (set2 S d i a) d i b=set2 S d i b:=by
 unfold set2
 rcases Nat.lt_or_ge d S.length with hd|hd
 .simp[List.getD,hd]
 rw[List.set_eq_of_length_le (by simpa using hd),List.set_eq_of_length_le hd,List.set_eq_of_length_le hd]
theorem zAN{α:Type}{S:List (List α)}{d i:Nat}{o:α}(h:get2 S d i=some o):set2 S d i o=S:=by
 unfold get2 at h;unfold set2
 obtain⟨L,hL,hi⟩:=Option.bind_eq_some_iff.1 h
 have e:S.getD d []=L:=by simp[List.getD,hL]
 have Ae:=(List.getElem?_eq_some_iff.1 hi)
 rw[e,<-Ae.2,List.set_getElem_self]
 have pf:=(List.getElem?_eq_some_iff.1 hL)
 rw[<-pf.2,List.set_getElem_self]
section
variable{P:Program}{fr:List AV}{S:ASt}{Q:Exit->List AV->ASt->Prop}
theorem zTQ:awp P .skip fr S Q=Q .normal fr S:=by rw[awp]
theorem zOm(id:Nat)(ops:Array Oper):awp P (.region id ops false) fr S Q=awpF P ops ops.toList fr S (Q .normal):=by rw[awp,if_neg (by simp)]
def SeqQ(P:Program)(b:Code)(Q:Exit->List AV->ASt->Prop)(e:Exit)(fr:List AV)(S:ASt):Prop:=match e with| .normal=>awp P b fr S Q|e=>Q e fr S
def BlkQ(id:Nat)(Q:Exit->List AV->ASt->Prop)(e:Exit)(fr:List AV)(S:ASt):Prop:=match e with| .exit j=>if j=id then Q .normal fr S else Q (.exit j) fr S|e=>Q e fr S
theorem zMG(b:Code):SeqQ P b Q .normal fr S=awp P b fr S Q:=rfl
theorem zQc(b:Code)(j:Nat):SeqQ P b Q (.exit j) fr S=Q (.exit j) fr S:=rfl
theorem zTR(b:Code):SeqQ P b Q .ret fr S=Q .ret fr S:=rfl
theorem zMH(i:Nat):BlkQ i Q .normal fr S=Q .normal fr S:=rfl
theorem zQd(i j:Nat):BlkQ i Q (.exit j) fr S=if j=i then Q .normal fr S else Q (.exit j) fr S:=rfl
theorem zTS(i:Nat):BlkQ i Q .ret fr S=Q .ret fr S:=rfl
theorem zWo(a b:Code):awp P (.seq a b) fr S Q=awp P a fr S (SeqQ P b Q):=by rw[awp]<;>congr 1
theorem zTT(c:Operand)(t e:Code):awp P (.cond c t e) fr S Q=(match evA fr c with| .p (.v (.bool b))=>if b=true then awp P t fr S Q else awp P e fr S Q| .bl=>awp P t fr S Q/\awp P e fr S Q|_=>False):=by rw[awp]<;>rfl
theorem zQe(id:Nat)(c:Code):awp P (.block id c) fr S Q=awp P c fr S (BlkQ id Q):=by rw[awp]<;>congr 1
theorem zTU(id:Nat):awp P (.exit id) fr S Q=Q (.exit id) fr S:=by rw[awp]
theorem zQf(l:Nat):awp P (.label l) fr S Q=Q .normal fr S:=by rw[awp]
theorem zWp:awp P .ret fr S Q=Q .ret fr S:=by rw[awp]
theorem zTV{ops:Array Oper}{K:List AV->ASt->Prop}:awpF P ops [] fr S K=K fr S:=by rw[awpF]
@[reducible] def CallQ (P : Program) (F : Nat) (args : List AV) (S : ASt) (K : AV -> ASt -> Prop) : Prop:=∃ r S',ADet P F args S r S' /\ K r S'
def zY9(P:Program)(ops:Array Oper)(os:List Oper)(fr:List AV)(dst:Option Nat)(K:List AV->ASt->Prop)(r:AV)(S:ASt):Prop:=awpF P ops os (putA fr dst r) S K
theorem zTW{ops:Array Oper}(os:List Oper)(dst:Option Nat){K:List AV->ASt->Prop}(r:AV):zY9 P ops os fr dst K r S=awpF P ops os (putA fr dst r) S K:=rfl
theorem zQg{ops:Array Oper}{K:List AV->ASt->Prop}(o:Oper)(os:List Oper):awpF P ops (o::os) fr S K=(match zBk ops o fr with
  |some true=>
   match zCl o fr with
   |some (F,args)=>CallQ P F args S (zY9 P ops os fr o.dst K)
   |none=>
    match zDu P o fr S with
    |some (v,S')=>awpF P ops os (putA fr o.dst v) S' K
    |none=>False
  |some false=>awpF P ops os (putA fr o.dst .un) S K
  |none=>False):=by rw[awpF]<;>rfl
end
section
variable{α:Type}{I:α->Prop}{F:α->List AV}{G:α->ASt}{μ:α->Nat}{m n:Nat}{Q:Exit->List AV->ASt->Prop}{ja:List AV}{S':ASt}
theorem zKz:zJu I F G μ m n Q .normal ja S'=∃a',I a'/\μ a'<m/\wkR (AV.cuts n ja) (F a')/\wkT (trim n S') (G a'):=rfl
theorem zK0{n:α->Nat}:zKy I F G μ m n Q .normal ja S'=∃a',I a'/\μ a'<m/\wkR (AV.cuts (n a') ja) (F a')/\wkT (trim (n a') S') (G a'):=rfl
theorem zOn{n:α->Nat}(j:Nat):zKy I F G μ m n Q (.exit j) ja S'=Q (.exit j) ja S':=rfl
theorem zQh{n:α->Nat}:zKy I F G μ m n Q .ret ja S'=Q .ret ja S':=rfl
theorem zOo(j:Nat):zJu I F G μ m n Q (.exit j) ja S'=Q (.exit j) ja S':=rfl
theorem zQi:zJu I F G μ m n Q .ret ja S'=Q .ret ja S':=rfl
theorem zTX(P:Program)(rs:List ResultVar)(r:AV)(e:Exit)(fr:List AV)(S S1:ASt):zME P rs r S e fr S1=((e= .normal\/e= .ret)/\∃vs,resA P fr S1 rs=some vs/\(retA vs).down 1=some r/\S1.tail=S):=by rw[zME]
end
theorem zH{P:Program}{fr:List AV}{S:ASt}{Q:Exit->List AV->ASt->Prop}{body:Code}{α:Type}(I:α->Prop)(F:α->List AV)(G:α->ASt)(μ:α->Nat)(a0:α)(h0:I a0)(hF:wkR fr (F a0))(hG:wkT S (G a0))(h:∀a,I a->awp P body (F a) (G a) (zJu I F G μ (μ a) (top (G a0)) Q)):awp P (.loop body) fr S Q:=⟨α,I,F,G,μ,a0,fun _=>top (G a0),h0,.wk hF hG,fun _ _=>Nat.le_refl _,h⟩
theorem zAw{P:Program}{fr:List AV}{L:List AObj}{R:ASt}{Q:Exit->List AV->ASt->Prop}{body:Code}{α:Type}(E:TypeId)(k:Nat)(hk:0<k)(L':List AObj)(I:α->Prop)(F:α->List AV)(G:α->ASt)(μ:α->Nat)(a0:α)(h0:I a0)(nb:wkNR k L.length fr (F a0))(hL:wkNL k L.length L L')(hG:G a0=((L'++[.tok E k 0])::R))(h:∀a,I a->awp P body (F a) (G a) (zJu I F G μ (μ a) (top (G a0)) Q)):awp P (.loop body) fr (L::R) Q:=⟨α,I,F,G,μ,a0,fun _=>top (G a0),h0,by rw[hG];exact zFo.ghost E k hk nb hL,fun _ _=>Nat.le_refl _,h⟩
theorem zET{P:Program}{fr:List AV}{L:List AObj}{R:ASt}{Q:Exit->List AV->ASt->Prop}{body:Code}{α:Type}(E:TypeId)(k:Nat)(hk:0<k)(L':List AObj)(I:α->Prop)(F:α->List AV)(G:α->ASt)(μ:α->Nat)(n:α->Nat)(a0:α)(h0:I a0)(hn:∀a,I a->top (G a0)<=n a)(nb:wkMR k L.length fr (F a0))(hL:wkML k L.length L L')(hG:G a0=((L'++[.row E k 0 []])::R))(h:∀a,I a->awp P body (F a) (G a) (zKy I F G μ (μ a) n Q)):awp P (.loop body) fr (L::R) Q:=⟨α,I,F,G,μ,a0,n,h0,by rw[hG];exact zFo.ghostR E k hk nb hL,hn,h⟩
theorem zA{q n:Nat}(h:q<n)(hn:n<=maxLen:=by assumption):IntKind.i64.wrap ((q:Int)+1)=((q+1:Nat):Int):=by
 unfold maxLen at hn;rw[IntWalk.i64_in _ (by omega)]
 rfl
end Go.Proofs.YtdflkegnmmkkoaaGreatDoor
namespace Go.Proofs.YtdflkegnmmkkoaaGreatDoor
open Go.RowKit
def zA4(o:Oper):Nat:=
 match o.op with
 | .load _ _=>1
 | .convert _ _ _=>1
 | .lookup _ _ _ _=>1
 | .store _ _ _=>2
 | .box _ _=>2
 | .alloc _=>2
 | .buildSlice _ _ _=>if o.type=4294967295 then 1 else 2
 | .makeMap _ _=>2
 | .mapUpdate _ _ _ _=>2
 | .insert _ _ _ _=>2
 | .mapEntry _ _ _=>2
 | .entryStore _ _ _ _=>2
 | .call c=>
  match c.callee with
  | .builtin .append=>2
  | .builtin _=>0
  |_=>2
 |_=>0
theorem zK1{fr ja:List AV}{x:Operand}(h:∀t,x= .tmp t->fr[t]? =ja[t]?):evA fr x=evA ja x:=by
 cases x with
 |tmp t=>simp only[evA,List.getD,h t rfl]
 |_=>rfl
theorem zFL{fr ja:List AV}:∀{xs:List Operand},(∀x∈xs,evA fr x=evA ja x)->zZ fr xs=zZ ja xs
 | [],_=>rfl
 |x::xs,h=>by simp only[zZ,h x (by simp),zFL fun y hy=>h y (List.mem_cons_of_mem _ hy)]
theorem zOp{P:Program}{o:Oper}{fr ja:List AV}(h:∀x∈o.op.operands.toList,evA fr x=evA ja x):genP P o fr=genP P o ja:=by
 unfold genP;rw[zFL h];split
 .rename_i hc
  simp only[Bool.and_eq_true]at hc;rw[execOp_congr o (fun cs b hs=>by rw[hs]at hc;simp[zHW]at hc) (fun x hx=>by rw[h x (by simpa using hx)])]
 rfl
theorem zEU{fr ja:List AV}{xs:List Operand}(h:∀x∈xs,evA fr x=evA ja x):xs.map (evA fr)=xs.map (evA ja):=List.map_congr_left h
theorem zFq{P:Program}{o:Oper}{fr ja:List AV}(h:∀x∈o.op.operands.toList,evA fr x=evA ja x):evP P o fr=evP P o ja:=by
 have hg:=zOp (P:=P) h
 obtain⟨dst,op,type,pos,after,guard⟩:=o
 cases op with
 |move x=>simp only[evP];rw[h x (by simp[Op.operands])]
 |assign x=>simp only[evP];rw[h x (by simp[Op.operands])]
 |pick c a b=>simp only[evP];rw[h c (by simp[Op.operands]),h a (by simp[Op.operands]),h b (by simp[Op.operands])]
 |nilCheck x=>simp only[evP];rw[h x (by simp[Op.operands])]
 |fieldAddr s x f=>simp only[evP];rw[h x (by simp[Op.operands])]
 |indexAddr t x ix=>simp only[evP];rw[h x (by simp[Op.operands]),h ix (by simp[Op.operands])]
 |index t x ix=>simp only[evP];rw[h x (by simp[Op.operands]),h ix (by simp[Op.operands]),hg]
 |extract t ix=>simp only[evP];rw[h t (by simp[Op.operands])]
 |field T x f=>simp only[evP];rw[h x (by simp[Op.operands])]
 |build T Pa=>
  simp only[evP]
  rw[List.map_congr_left (g:=fun q=>(q.1,evA ja q.2)) fun q hq=>by rw[h q.2 (by simp[Op.operands];exact⟨q.1,by simpa using hq⟩)]]
 |makeFunc fn first captured=>
  simp only[evP]
  rw[zEU fun x hx=>h x (by simp[Op.operands];exact .inl (by simpa using hx)),zEU fun x hx=>h x (by simp[Op.operands];exact .inr (by simpa using hx))]
 |slice t x lo hi mx=>
  have e1:lo.map (evA fr)=lo.map (evA ja):=by cases lo with|none=>rfl|some y=>simp only[Option.map_some];rw[h y (by simp[Op.operands])]
  have e2:hi.map (evA fr)=hi.map (evA ja):=by cases hi with|none=>rfl|some y=>simp only[Option.map_some];rw[h y (by simp[Op.operands])]
  cases mx with
  |none=>simp only[evP];rw[h x (by simp[Op.operands]),e1,e2,hg]
  |some m=>
   cases lo with
   |some l0=>simp only[evP];exact hg
   |none=>
    cases hi with
    |none=>simp only[evP];exact hg
    |some y=>simp only[evP];rw[h x (by simp[Op.operands]),h y (by simp[Op.operands]),h m (by simp[Op.operands]),hg]
 |binOp op T x y T'=>simp only[evP];rw[h x (by simp[Op.operands]),h y (by simp[Op.operands]),hg]
 |unOp op T x=>simp only[evP];rw[h x (by simp[Op.operands]),hg]
 |call c=>
  simp only[evP];rw[hg]
  have:lenA P c fr=lenA P c ja:=by
   obtain⟨callee,args,argTypes⟩:=c
   unfold lenA;split
   .rename_i x t e1 e2 e3
    simp only at e2;subst e2;rw[h x (by simp[Op.operands,Call.operands])]
   rfl
  have h2:maxA c fr=maxA c ja:=by
   obtain⟨callee,args,argTypes⟩:=c
   unfold maxA;split
   .rename_i x y e1 e2
    simp only at e2;subst e2;rw[h x (by simp[Op.operands,Call.operands]),h y (by simp[Op.operands,Call.operands])]
   rfl
  rw[this,h2]
 |_=>simp only[evP];exact hg
theorem zHh{P:Program}{o:Oper}{fr ja:List AV}{S S':ASt}{v:AV}{ref:Option (Nat × Nat)}(h:∀x∈o.op.operands.toList,evA fr x=evA ja x)(hv:evL P o fr S=some (v,ref))(hS:∀d i,ref=some (d,i)->get2 S' d i=get2 S d i):evL P o ja S'=some (v,ref):=by
 obtain⟨dst,op,type,pos,after,guard⟩:=o
 unfold evL at hv ⊢
 cases op with
 |load t x=>
  simp only at hv ⊢;rw[<-h x (by simp[Op.operands])]
  split at hv
  .rename_i d i off he
   split at hv
   .rename_i cs T hc
    obtain⟨v0,h1,h2⟩:=Option.map_eq_some_iff.1 hv
    cases h2
    have:=hS d i rfl
    simp only[this,hc,h1];rfl
   cases hv
  .rename_i d i n off he
   split at hv
   .rename_i E k n' cs hc
    split at hv
    .rename_i hnn
     obtain⟨v0,h1,h2⟩:=Option.map_eq_some_iff.1 hv
     cases h2
     have:=hS d i rfl
     simp only[this,hc,h1,if_pos hnn];rfl
    cases hv
   cases hv
  .rename_i cs he
   obtain⟨v0,h1,h2⟩:=Option.map_eq_some_iff.1 hv
   cases h2;simp only[h1];rfl
  .rename_i cs he
   obtain⟨v0,h1,h2⟩:=Option.map_eq_some_iff.1 hv
   cases h2;simp only[h1];rfl
  cases hv
 |convert t0 t1 x=>
  have he:=zFq (P:=P) h
  have hx:=h x (by simp[Op.operands])
  simp only at hv ⊢;rw[<-hx,<-he]
  exact hv
 |lookup t m k ok=>
  simp only at hv ⊢;rw[<-h m (by simp[Op.operands]),<-h k (by simp[Op.operands])]
  unfold zQT at hv ⊢;split at hv
  .rename_i kt et hT
   split at hv
   .rename_i d i Bv
    split at hv
    .rename_i es hc
     have vk:ref=some (d,i):=by
      split at hv
      .cases hv;rfl
      .obtain⟨_,_,h2⟩:=Option.map_eq_some_iff.1 hv;cases h2;rfl
      cases hv
     simp only[hS d i vk,hc];exact hv
    cases hv
   cases hv
  cases hv
 |buildSlice t len Pa=>
  simp only at hv ⊢;rw[List.map_congr_left (g:=fun q=>(q.1,evA ja q.2)) fun q hq=>by rw[h q.2 (by simp[Op.operands];exact⟨q.1,by simpa using hq⟩)]]at hv
  exact hv
 |_=>simp at hv
theorem zHi{P:Program}{o:Oper}{fr ja:List AV}{S:ASt}(h:∀x∈o.op.operands.toList,evA fr x=evA ja x):evC P o fr S=evC P o ja S:=by
 obtain⟨dst,op,type,pos,after,guard⟩:=o
 cases op with
 |box t x=>simp only[evC];rw[h x (by simp[Op.operands])]
 |store t x y=>simp only[evC];rw[h x (by simp[Op.operands]),h y (by simp[Op.operands])]
 |buildSlice t len Pa=>
  simp only[evC]
  rw[List.map_congr_left (g:=fun q=>(q.1,evA ja q.2)) fun q hq=>by rw[h q.2 (by simp[Op.operands];exact⟨q.1,by simpa using hq⟩)]]
 |mapEntry t m k=>simp only[evC];rw[h m (by simp[Op.operands]),h k (by simp[Op.operands])]
 |entryStore t m k v=>simp only[evC];rw[h m (by simp[Op.operands]),h k (by simp[Op.operands]),h v (by simp[Op.operands])]
 |mapUpdate t m k v=>simp only[evC];rw[h m (by simp[Op.operands]),h k (by simp[Op.operands]),h v (by simp[Op.operands])]
 |insert t m k v=>simp only[evC];rw[h m (by simp[Op.operands]),h k (by simp[Op.operands]),h v (by simp[Op.operands])]
 |makeMap t r=>cases r<;>rfl
 |call c=>
  obtain⟨callee,args,argTypes⟩:=c
  simp only[evC];split
  .rename_i s x t t'
   rw[h s (by simp[Op.operands,Call.operands]),h x (by simp[Op.operands,Call.operands])]
  rfl
 |_=>rfl
theorem zDx{o:Oper}{fr ja:List AV}(h:∀x∈o.op.operands.toList,evA fr x=evA ja x):zCl o fr=zCl o ja:=by
 obtain⟨dst,op,type,pos,after,guard⟩:=o
 cases op with
 |call c=>
  obtain⟨callee,args,argTypes⟩:=c
  cases callee with
  |value f=>
   simp only[zCl]
   rw[h f (by simp[Op.operands,Call.operands]),zEU fun x hx=>h x (by simp[Op.operands,Call.operands];exact .inr (by simpa using hx))]
  |_=>rfl
 |_=>rfl
theorem zCJ{ops:Array Oper}{o:Oper}{fr ja:List AV}(h:∀t∈o.looksAt ops,fr[t]? =ja[t]?):zBk ops o fr=zBk ops o ja:=by
 unfold zBk;split
 .rfl
 rename_i j uk hg
 split
 .rename_i t ht
  rw[h t (by simp only[Oper.looksAt,hg,ht];simp)]
 rfl
theorem zG6{ops:Array Oper}{o:Oper}{fr ja:List AV}(h:∀t∈o.looksAt ops,fr[t]? =ja[t]?):∀x∈o.op.operands.toList,evA fr x=evA ja x:=fun x hx=>zK1 fun t ht=>h t (by
 subst ht;simp only[Oper.looksAt];exact List.mem_append_left _ (List.mem_filterMap.2 ⟨_,hx,rfl⟩))
inductive Anc (ops:Array Oper):Nat->Nat->Prop
 |step {i:Nat} {o:Oper} {e:Edge}:ops[i]? =some o->e∈o.after->Region.binds .any e=true->Anc ops i e.on
 |trans {i:Nat} {o:Oper} {e:Edge} {k:Nat}:ops[i]? =some o->e∈o.after->Region.binds .any e=true->Anc ops e.on k->Anc ops i k
def zQj(acc:List Nat)(es:List Edge)(s:Nat):Nat:=
 match es with
 | []=>s
 |e::es=>zQj acc es (if Region.binds .any e=true then s|||2^e.on|||acc.getD e.on 0 else s)
def zOq:List Oper->List Nat->List Nat
 | [],acc=>acc
 |o::os,acc=>zOq os (acc++[zQj acc o.after.toList 0])
theorem zHj(acc:List Nat):∀(es:List Edge) (s k:Nat),(zQj acc es s).testBit k=true->s.testBit k=true\/∃e∈es,Region.binds .any e=true/\(e.on=k\/(acc.getD e.on 0).testBit k=true)
 | [],s,k,h=>.inl h
 |e::es,s,k,h=>by
  rcases zHj acc es _ k h with h1|⟨e',h2,h3⟩
  .split at h1
   .rename_i hb
    rw[Nat.testBit_or,Nat.testBit_or,Bool.or_eq_true,Bool.or_eq_true]at h1
    rcases h1 with(h1|h1)|h1
    .exact .inl h1
    .rw[Nat.testBit_two_pow]at h1
     exact .inr ⟨e,by simp,hb,.inl (by simpa using h1)⟩
    exact .inr ⟨e,by simp,hb,.inr h1⟩
   exact .inl h1
  exact .inr ⟨e',List.mem_cons_of_mem _ h2,h3⟩
theorem zI7(ops:Array Oper):∀(os:List Oper) (acc:List Nat),ops.toList.drop acc.length=os->(∀i k,(acc.getD i 0).testBit k=true->Anc ops i k)->∀i k,((zOq os acc).getD i 0).testBit k=true->Anc ops i k
 | [],acc,_,h=>h
 |o::os,acc,hd,h=>by
  have ho:ops[acc.length]? =some o:=by
   have:(ops.toList.drop acc.length)[0]? =some o:=by rw[hd];rfl
   rw[List.getElem?_drop]at this
   simpa using this
  refine zI7 ops os _ (by rw[List.length_append,List.length_singleton,<-List.drop_drop,hd];rfl) fun i k hk=>?_
  rcases Nat.lt_trichotomy i acc.length with hi|hi|hi
  .rw[List.getD,List.getElem?_append_left hi]at hk
   exact h i k hk
  .subst hi
   rw[List.getD,List.getElem?_append_right (Nat.le_refl _),Nat.sub_self]at hk;simp only[List.getElem?_cons_zero,Option.getD_some]at hk
   rcases zHj acc _ 0 k hk with h1|⟨e,he,hb,h2⟩
   .simp at h1
   have kc:e∈o.after:=by simpa using he
   rcases h2 with rfl|h2
   .exact .step ho kc hb
   exact .trans ho kc hb (h _ _ h2)
  rw[List.getD,List.getElem?_eq_none (by simp;omega)]at hk
  simp at hk
def ordB(ops:Array Oper)(j i:Nat):Bool:=((zOq ops.toList []).getD i 0).testBit j
theorem zFr{ops:Array Oper}{j i:Nat}(h:ordB ops j i=true):Anc ops i j:=zI7 ops _ [] rfl (fun i k h=>by simp at h) i j h
def zK2(ops:Array Oper):Bool:=
 let M:=zOq ops.toList []
 (ops.toList.zipIdx.all fun(o,i)=>o.after.toList.all (fun e=>!Region.binds .any e||decide (e.on<i))&&(M.getD i 0==M.getD i 0)&&
  ((ops.toList.take i).zipIdx.all fun(x,j)=>(x.apart ops o&& !(zA4 x==2&&zA4 o==2))||(M.getD i 0).testBit j))
theorem zDe{ops:Array Oper}(h:zK2 ops=true):(∀i o,ops[i]? =some o->∀e∈o.after,Region.binds .any e=true->e.on<i)/\
  ∀i j o x,j<i->ops[i]? =some o->ops[j]? =some x->(x.apart ops o=false\/(zA4 x=2/\zA4 o=2))->Anc ops i j:=by
 unfold zK2 at h;simp only[List.all_eq_true]at h
 have mc:∀i o,ops[i]? =some o->(o,i)∈ops.toList.zipIdx:=fun i o ho=>List.mem_zipIdx_iff_getElem?.2 (by simpa using ho)
 refine⟨fun i o ho e he hb=>?_,fun i j o x Wc ho hx hc=>?_⟩
 .have:=h _ (mc i o ho)
  simp only[Bool.and_eq_true,List.all_eq_true]at this
  have:=this.1.1 e (by simpa using he)
  simpa [hb]using this
 have:=h _ (mc i o ho)
 simp only[Bool.and_eq_true,List.all_eq_true]at this
 have hm:(x,j)∈(ops.toList.take i).zipIdx:=List.mem_zipIdx_iff_getElem?.2 (by rw[List.getElem?_take_of_lt Wc];simpa using hx)
 have h2:=this.2 _ hm
 simp only[Bool.or_eq_true,Bool.and_eq_true]at h2
 rcases h2 with⟨h3,h4⟩|h2
 .rcases hc with hc|⟨De,jg⟩
  .rw[hc]at h3;cases h3
  simp[De,jg]at h4
 exact zFr h2
section
variable{P:Program}{ops:Array Oper}{fr0:List AV}{V:Nat->AV}{Sx:Nat->ASt}
def dstO(ops:Array Oper)(j:Nat):Option Nat:=(ops[j]?).bind (·.dst)
def chO(ops:Array Oper)(j:Nat):Bool:=((ops[j]?).map zA4)==some 2
def frD(ops:Array Oper)(V:Nat->AV)(D:Nat->Bool):List Nat->List AV->List AV
 | [],fr=>fr
 |j::l,fr=>frD ops V D l (if D j=true then putA fr (dstO ops j) (V j)else fr)
def Sc(ops:Array Oper)(Sx:Nat->ASt)(D:Nat->Bool):List Nat->ASt->ASt
 | [],S=>S
 |j::l,S=>Sc ops Sx D l (if(D j&&chO ops j)=true then Sx (j+1)else S)
theorem zNb(fr:List AV)(d:Option Nat)(v:AV):(putA fr d v).length=fr.length:=by cases d<;>simp[putA]
theorem zTY{fr ja:List AV}{t:Nat}(d:Option Nat)(v:AV)(hl:fr.length=ja.length)(h:fr[t]? =ja[t]?):(putA fr d v)[t]? =(putA ja d v)[t]?:=by
 cases d with
 |none=>exact h
 |some d=>
  simp only[putA]
  by_cases hd:t=d
  .subst hd
   rcases Nat.lt_or_ge t fr.length with ht|ht
   .rw[List.getElem?_set_self ht,List.getElem?_set_self (by omega)]
   rw[List.getElem?_eq_none (by simpa using ht),List.getElem?_eq_none (by simp;omega)]
  rw[List.getElem?_set_ne (by omega),List.getElem?_set_ne (by omega)];exact h
theorem zQk{fr:List AV}{t:Nat}{d:Option Nat}(v:AV)(h:d≠some t):(putA fr d v)[t]? =fr[t]?:=by
 cases d with
 |none=>rfl
 |some d=>simp only[putA];rw[List.getElem?_set_ne (fun e=>h (by rw[e]))]
theorem zMI(D:Nat->Bool):∀(l:List Nat) (fr:List AV),(frD ops V D l fr).length=fr.length
 | [],fr=>rfl
 |j::l,fr=>by
  rw[frD,zMI D l];split
  .exact zNb _ _ _
  rfl
theorem zCT{t:Nat}{D D':Nat->Bool}:∀(l:List Nat) (fr ja:List AV),fr.length=ja.length->fr[t]? =ja[t]?->(∀j∈l,dstO ops j=some t->D j=D' j)->(frD ops V D l fr)[t]? =(frD ops V D' l ja)[t]?
 | [],fr,ja,_,h,_=>h
 |j::l,fr,ja,hl,h,hD=>by
  rw[frD,frD];refine zCT l _ _ ?_ ?_ fun i hi=>hD i (List.mem_cons_of_mem _ hi)
  .split<;>split<;>simp[zNb,hl]
  by_cases hd:dstO ops j=some t
  .rw[hD j (by simp) hd]
   split
   .exact zTY _ _ hl h
   exact h
  split<;>split<;>simp[zQk _ hd,h]
theorem zDf(D:Nat->Bool):∀(l l':List Nat) (fr:List AV),frD ops V D (l++l') fr=frD ops V D l' (frD ops V D l fr)
 | [],l',fr=>rfl
 |j::l,l',fr=>by rw[List.cons_append,frD,frD,zDf D l l']
theorem zC7(D:Nat->Bool):∀(l l':List Nat) (S:ASt),Sc ops Sx D (l++l') S=Sc ops Sx D l' (Sc ops Sx D l S)
 | [],l',S=>rfl
 |j::l,l',S=>by rw[List.cons_append,Sc,Sc,zC7 D l l']
theorem zC0{D D':Nat->Bool}:∀(l:List Nat) (S:ASt),(∀j∈l,chO ops j=true->D j=D' j)->Sc ops Sx D l S=Sc ops Sx D' l S
 | [],S,_=>rfl
 |j::l,S,h=>by
  have e:(if(D j&&chO ops j)=true then Sx (j+1)else S)=(if(D' j&&chO ops j)=true then Sx (j+1)else S):=by
   cases hc:chO ops j with
   |true=>rw[h j (by simp) hc]
   |false=>simp
  rw[Sc,Sc,e];exact zC0 l _ fun i hi=>h i (List.mem_cons_of_mem _ hi)
theorem zDy{i n:Nat}(h:i<n):List.range n=List.range i++i::(List.range' (i+1) (n-(i+1))):=by
 rw[List.range_eq_range',List.range_eq_range',<-List.range'_succ (s:=i) (n:=n-(i+1)) (step:=1)]
 have:=List.range'_append (s:=0) (m:=i) (n:=n-(i+1)+1) (step:=1)
 simp only[Nat.one_mul,Nat.zero_add]at this;rw[this]
 congr 1
 omega
structure Drawn (P:Program) (ops:Array Oper) (fr0:List AV) (S0:ASt) (V:Nat->AV) (Sx:Nat->ASt):Prop where
 stat:zK2 ops=true
 start:Sx 0=S0
 step:∀i o,ops[i]? =some o->(zBk ops o (frD ops V (fun j=>decide (j<i)) (List.range i) fr0)=some false/\V i= .un/\Sx (i+1)=Sx i)\/
  (zBk ops o (frD ops V (fun j=>decide (j<i)) (List.range i) fr0)=some true/\
   ((evP P o (frD ops V (fun j=>decide (j<i)) (List.range i) fr0)=some (V i)/\zA4 o=0/\Sx (i+1)=Sx i)\/
    (∃ref,evL P o (frD ops V (fun j=>decide (j<i)) (List.range i) fr0) (Sx i)=some (V i,ref)/\zA4 o=1/\Sx (i+1)=Sx i/\
     ∀d k,ref=some (d,k)->∀m,m<ops.size->chO ops m=true->ordB ops m i=true\/ordB ops i m=true\/get2 (Sx (m+1)) d k=get2 (Sx m) d k)\/
    (zA4 o=2/\((∃lg,evC P o (frD ops V (fun j=>decide (j<i)) (List.range i) fr0) (Sx i)=some (V i,Sx (i+1),lg))\/(∃F args,zCl o (frD ops V (fun j=>decide (j<i)) (List.range i) fr0)=some (F,args)/\ADet P F args (Sx i) (V i) (Sx (i+1)))))))
variable{S0:ASt}
theorem Drawn.same(hd:Drawn P ops fr0 S0 V Sx){i:Nat}{o:Oper}(ho:ops[i]? =some o)(hk:zA4 o≠2):Sx (i+1)=Sx i:=by
 rcases hd.step i o ho with h|⟨_,h⟩
 .exact h.2.2
 rcases h with h|⟨_,h⟩|h
 .exact h.2.2
 .exact h.2.2.1
 exact absurd h.1 hk
theorem Drawn.all_to(hd:Drawn P ops fr0 S0 V Sx)(i:Nat)(hi:i<=ops.size):Sc ops Sx (fun j=>decide (j<i)) (List.range i) (Sx 0)=Sx i:=by
 have key:∀n,n<=i->Sc ops Sx (fun j=>decide (j<i)) (List.range n) (Sx 0)=Sx n:=by
  intro n
  induction n with
  |zero=>intro _;rfl
  |succ n ih=>
   intro hn;rw[List.range_succ,zC7,ih (by omega)]
   rw[Sc,Sc]
   have hlt:n<ops.size:=by omega
   have ho:ops[n]? =some ops[n]:=Array.getElem?_eq_getElem hlt
   cases hc:chO ops n with
   |true=>simp;omega
   |false=>
    simp only[Bool.and_false,Bool.false_eq_true,if_false];exact(hd.same ho (fun hk=>by simp[chO,ho,hk]at hc)).symm
 exact key i (Nat.le_refl _)
theorem zDg{ba:Nat->Bool}(hJ:∀i o,ops[i]? =some o->ba i=true->∀e∈o.after,Region.binds .any e=true->ba e.on=true){i j:Nat}(h:Anc ops i j):ba i=true->ba j=true:=by
 induction h with
 |step ho he hb=>exact fun hl=>hJ _ _ ho hl _ he hb
 |trans ho he hb _ ih=>exact fun hl=>ih (hJ _ _ ho hl _ he hb)
def zDP(ops:Array Oper)(D:Nat->Bool):Prop:=∀i o,ops[i]? =some o->D i=true->∀e∈o.after,Region.binds .any e=true->D e.on=true
theorem zOr{x y:Oper}(h:x.apart ops y=true):y.apart ops x=true:=by
 obtain⟨h1,h2,h3⟩:=Oper.apart_spec h
 unfold Oper.apart;cases hx:x.dst<;>cases hy:y.dst<;>simp_all
 intro he;exact absurd he.symm h2
theorem Drawn.free(hd:Drawn P ops fr0 S0 V Sx){D:Nat->Bool}(hJ:zDP ops D){i:Nat}{o:Oper}(ho:ops[i]? =some o)(hi:D i=false)(hr:∀e∈o.after,Region.binds .any e=true->D e.on=true){j:Nat}{x:Oper}(hx:ops[j]? =some x)(hne:j≠i)(hc:x.apart ops o=false\/o.apart ops x=false\/(zA4 x=2/\zA4 o=2)):D j=decide (j<i):=by
 obtain⟨h1,h2⟩:=zDe hd.stat
 have Vi:∀k,Anc ops i k->D k=true:=fun k hk=>by
  cases hk with
  |step ya he hb=>rw[ho]at ya;cases ya;exact hr _ he hb
  |trans ya he hb ht=>rw[ho]at ya;cases ya;exact zDg hJ ht (hr _ he hb)
 have hs:∀a b:Oper,a.apart ops b=false->b.apart ops a=false:=fun a b h=>by
  cases hb:b.apart ops a with
  |false=>rfl
  |true=>rw[zOr hb]at h;cases h
 rcases Nat.lt_trichotomy j i with hlt|heq|hlt
 .have:=Vi j (h2 i j o x hlt ho hx (by
   rcases hc with h|h|h
   .exact .inl h
   .exact .inl (hs _ _ h)
   exact .inr h))
  rw[this];simp[hlt]
 .exact absurd heq hne
 have hA:=h2 j i x o hlt hx ho (by
  rcases hc with h|h|h
  .exact .inl (hs _ _ h)
  .exact .inl h
  exact .inr ⟨h.2,h.1⟩)
 cases hD:D j with
 |false=>simp;omega
 |true=>have:=zDg hJ hA hD;rw[hi]at this;cases this
theorem zCU{i:Nat}{o:Oper}(ho:ops[i]? =some o):i<ops.size:=(Array.getElem?_eq_some_iff.1 ho).1
theorem Drawn.looks(hd:Drawn P ops fr0 S0 V Sx){D:Nat->Bool}(hJ:zDP ops D){i:Nat}{o:Oper}(ho:ops[i]? =some o)(hi:D i=false)(hr:∀e∈o.after,Region.binds .any e=true->D e.on=true):∀t∈o.looksAt ops,(frD ops V (fun j=>decide (j<i)) (List.range i) fr0)[t]? =(frD ops V D (List.range ops.size) fr0)[t]?:=by
 intro t ht
 have key:∀j x,ops[j]? =some x->x.dst=some t->j≠i->D j=decide (j<i):=fun j x hx Oc hne=>hd.free hJ ho hi hr hx hne (by
  left
  cases h:x.apart ops o with
  |false=>rfl
  |true=>exact absurd ht ((Oper.apart_spec h).1 t Oc))
 have Oc:∀j,dstO ops j=some t->∃x,ops[j]? =some x/\x.dst=some t:=fun j hj=>Option.bind_eq_some_iff.1 hj
 rw[zDy (zCU ho),zDf]
 have h1:(frD ops V (fun j=>decide (j<i)) (List.range i) fr0)[t]? =(frD ops V D (List.range i) fr0)[t]?:=zCT _ _ _ rfl rfl fun j hj Pe=>by
  obtain⟨x,hx,xk⟩:=Oc j Pe
  have:=List.mem_range.1 hj
  rw[key j x hx xk (by omega)]
 have h2:(frD ops V D (i::List.range' (i+1) (ops.size-(i+1))) (frD ops V D (List.range i) fr0))[t]? =(frD ops V (fun _=>false) (i::List.range' (i+1) (ops.size-(i+1))) (frD ops V D (List.range i) fr0))[t]?:=zCT _ _ _ rfl rfl fun j hj Pe=>by
  obtain⟨x,hx,xk⟩:=Oc j Pe
  rcases List.mem_cons.1 hj with rfl|hj
  .exact hi
  have:=List.mem_range'_1.1 hj
  rw[key j x hx xk (by omega)]
  simp;omega
 have h3:∀(l:List Nat) (fr:List AV),frD ops V (fun _=>false) l fr=fr:=fun l=>by
  induction l with
  |nil=>intro fr;rfl
  |cons j l ih=>intro fr;rw[frD,if_neg (by simp),ih]
 rw[h1,h2,h3]
theorem Drawn.put(hd:Drawn P ops fr0 S0 V Sx){D D':Nat->Bool}(hJ:zDP ops D){i:Nat}{o:Oper}(ho:ops[i]? =some o)(hi:D i=false)(hr:∀e∈o.after,Region.binds .any e=true->D e.on=true)(Ec:∀j,D' j=if j=i then true else D j):frD ops V D' (List.range ops.size) fr0=putA (frD ops V D (List.range ops.size) fr0) o.dst (V i):=by
 apply List.ext_getElem?
 intro t
 have ca:∀D l,(frD ops V D l fr0).length=fr0.length:=fun D l=>zMI D l fr0
 by_cases ht:o.dst=some t
 .have key:∀j x,ops[j]? =some x->x.dst=some t->j≠i->D j=decide (j<i):=fun j x hx Oc hne=>hd.free hJ ho hi hr hx hne (by
   left
   cases h:x.apart ops o with
   |false=>rfl
   |true=>exact absurd ht ((Oper.apart_spec h).2.1 t Oc))
  rw[ht];simp only[putA];rw[zDy (zCU ho),zDf,frD,Ec i,if_pos rfl,if_pos rfl]
  have Sl:dstO ops i=some t:=by simp[dstO,ho,ht]
  have h2:∀(l:List Nat) (fr:List AV),(∀j∈l,i<j)->(frD ops V D' l fr)[t]? =fr[t]?:=fun l fr hl=>by
   have:=zCT (ops:=ops) (V:=V) (t:=t) (D:=D') (D':=fun _=>false) l fr fr rfl rfl fun j hj Pe=>by
    obtain⟨x,hx,xk⟩:=Option.bind_eq_some_iff.1 (show(ops[j]?).bind (·.dst)=some t from Pe)
    have:=hl j hj
    rw[Ec j,if_neg (by omega),key j x hx xk (by omega)]
    simp;omega
   rw[this];clear this
   induction l generalizing fr with
   |nil=>rfl
   |cons j l ih=>rw[frD,if_neg (by simp),ih fr fun k hk=>hl k (List.mem_cons_of_mem _ hk)]
  rw[h2 _ _ (fun j hj=>by have:=List.mem_range'_1.1 hj;omega),Sl]
  simp only[putA];rw[List.getElem?_set,List.getElem?_set,ca];simp[zMI,zDf]
 rw[zQk _ ht]
 refine zCT _ _ _ rfl rfl fun j hj Pe=>?_
 obtain⟨x,hx,xk⟩:=Option.bind_eq_some_iff.1 (show(ops[j]?).bind (·.dst)=some t from Pe)
 rw[Ec j,if_neg (fun Wc=>?_)]
 subst Wc;rw[ho]at hx;cases hx;exact ht xk
theorem Drawn.tail(hd:Drawn P ops fr0 S0 V Sx){D:Nat->Bool}:∀(l:List Nat) (S:ASt),(∀j∈l,chO ops j=true->D j=false)->Sc ops Sx D l S=S
 | [],S,_=>rfl
 |j::l,S,h=>by
  rw[Sc,if_neg (fun hc=>by simp only[Bool.and_eq_true]at hc;have:=h j (by simp) hc.2;rw[hc.1]at this;cases this)]
  exact Drawn.tail hd l S fun k hk=>h k (List.mem_cons_of_mem _ hk)
theorem Drawn.chain(hd:Drawn P ops fr0 S0 V Sx){D:Nat->Bool}(hJ:zDP ops D){i:Nat}{o:Oper}(ho:ops[i]? =some o)(hi:D i=false)(hr:∀e∈o.after,Region.binds .any e=true->D e.on=true)(hk:zA4 o=2):Sc ops Sx D (List.range ops.size) (Sx 0)=Sx i:=by
 have key:∀j,chO ops j=true->j≠i->D j=decide (j<i):=fun j hj hne=>by
  cases hx:ops[j]? with
  |none=>simp[chO,hx]at hj
  |some x=>exact hd.free hJ ho hi hr hx hne (.inr (.inr ⟨by simpa [chO,hx]using hj,hk⟩))
 have e1:Sc ops Sx D (List.range i) (Sx 0)=Sx i:=by
  rw[zC0 (D':=fun j=>decide (j<i)) (List.range i) _ fun j hj hc=>key j hc (by have:=List.mem_range.1 hj;omega)]
  exact hd.all_to i (Nat.le_of_lt (zCU ho))
 rw[zDy (zCU ho),zC7,e1];refine hd.tail _ _ fun j hj hc=>?_
 rcases List.mem_cons.1 hj with rfl|hj
 .exact hi
 have:=List.mem_range'_1.1 hj
 rw[key j hc (by omega)]
 simp;omega
theorem Drawn.chain_next(hd:Drawn P ops fr0 S0 V Sx){D D':Nat->Bool}(hJ:zDP ops D){i:Nat}{o:Oper}(ho:ops[i]? =some o)(hi:D i=false)(hr:∀e∈o.after,Region.binds .any e=true->D e.on=true)(hk:zA4 o=2)(Ec:∀j,D' j=if j=i then true else D j):Sc ops Sx D' (List.range ops.size) (Sx 0)=Sx (i+1):=by
 have key:∀j,chO ops j=true->j≠i->D j=decide (j<i):=fun j hj hne=>by
  cases hx:ops[j]? with
  |none=>simp[chO,hx]at hj
  |some x=>exact hd.free hJ ho hi hr hx hne (.inr (.inr ⟨by simpa [chO,hx]using hj,hk⟩))
 have e1:Sc ops Sx D' (List.range i) (Sx 0)=Sx i:=by
  rw[zC0 (D':=fun j=>decide (j<i)) (List.range i) _ fun j hj hc=>by
   have:=List.mem_range.1 hj
   rw[Ec j,if_neg (by omega)]
   exact key j hc (by omega)]
  exact hd.all_to i (Nat.le_of_lt (zCU ho))
 rw[zDy (zCU ho),zC7,e1,Sc]
 have Jq:chO ops i=true:=by simp[chO,ho,hk]
 rw[Ec i,if_pos rfl,Jq,Bool.and_self,if_pos rfl];refine hd.tail _ _ fun j hj hc=>?_
 have:=List.mem_range'_1.1 hj
 rw[Ec j,if_neg (by omega),key j hc (by omega)]
 simp;omega
theorem Drawn.kept(hd:Drawn P ops fr0 S0 V Sx){D:Nat->Bool}(hJ:zDP ops D){i:Nat}{o:Oper}(ho:ops[i]? =some o)(hi:D i=false)(hr:∀e∈o.after,Region.binds .any e=true->D e.on=true){d k:Nat}
  (hm:∀m,m<ops.size->chO ops m=true->ordB ops m i=true\/ordB ops i m=true\/get2 (Sx (m+1)) d k=get2 (Sx m) d k):get2 (Sc ops Sx D (List.range ops.size) (Sx 0)) d k=get2 (Sx i) d k:=by
 obtain⟨g1,g2⟩:=zDe hd.stat
 have Vi:∀k,Anc ops i k->D k=true:=fun k hk=>by
  cases hk with
  |step ya he hb=>rw[ho]at ya;cases ya;exact hr _ he hb
  |trans ya he hb ht=>rw[ho]at ya;cases ya;exact zDg hJ ht (hr _ he hb)
 have hlt:∀a b,Anc ops a b->b<a:=fun a b h=>by
  induction h with
  |step ho he hb=>exact g1 _ _ ho _ he hb
  |trans ho he hb _ ih=>have:=g1 _ _ ho _ he hb;omega
 have Xc:∀m,m<ops.size->chO ops m=false->Sx (m+1)=Sx m:=fun m hm hc=>by
  have hx:ops[m]? =some ops[m]:=Array.getElem?_eq_getElem hm
  exact hd.same hx fun hk=>by simp[chO,hx,hk]at hc
 have yk:∀a b,a<b->b<ops.size->chO ops a=true->chO ops b=true->D b=true->D a=true:=fun a b Zf hb ha Wi io=>by
  have Kq:ops[a]? =some ops[a]:=Array.getElem?_eq_getElem (by omega)
  have Ah:ops[b]? =some ops[b]:=Array.getElem?_eq_getElem hb
  exact zDg hJ (g2 b a _ _ Zf Ah Kq (.inr ⟨by simpa [chO,Kq]using ha,by simpa [chO,Ah]using Wi⟩)) io
 have Tl:∀m,m<ops.size->chO ops m=true->(D m=true->i<m)->(D m=false->m<i)->get2 (Sx (m+1)) d k=get2 (Sx m) d k:=fun m Xi hc h1 h2=>by
  rcases hm m Xi hc with h|h|h
  .have hA:=zFr h
   have:=Vi _ hA
   have:=hlt _ _ hA
   have:=h1 (Vi _ hA)
   omega
  .have hA:=zFr h
   have:=hlt _ _ hA
   cases hD:D m with
   |true=>have:=zDg hJ hA hD;rw[hi]at this;cases this
   |false=>have:=h2 hD;omega
  exact h
 have head:∀n,n<=i->get2 (Sc ops Sx D (List.range n) (Sx 0)) d k=get2 (Sx n) d k:=by
  intro n
  induction n with
  |zero=>intro _;rfl
  |succ n ih=>
   intro hn
   have Lq:n<ops.size:=by have:=zCU ho;omega
   rw[List.range_succ,zC7,Sc,Sc]
   cases hc:chO ops n with
   |false=>simp only[Bool.and_false,Bool.false_eq_true,if_false];rw[ih (by omega),Xc n Lq hc]
   |true=>
    cases hD:D n with
    |true=>simp
    |false=>
     simp only[Bool.and_true,Bool.false_eq_true,if_false];rw[ih (by omega)]
     exact(Tl n Lq hc (fun h=>by rw[hD]at h;cases h) (fun _=>by omega)).symm
 have Mh:∀n b,n<=b->b<ops.size->chO ops b=true->D b=true->Sc ops Sx D (List.range n) (Sx 0)=Sx n:=by
  intro n b vf hb Wi io
  induction n with
  |zero=>rfl
  |succ n ih=>
   rw[List.range_succ,zC7,Sc,Sc,ih (by omega)]
   cases hc:chO ops n with
   |false=>simp only[Bool.and_false,Bool.false_eq_true,if_false];rw[Xc n (by omega) hc]
   |true=>rw[yk n b (by omega) hb hc Wi io];simp
 have rest:∀n,i<=n->n<=ops.size->get2 (Sc ops Sx D (List.range n) (Sx 0)) d k=get2 (Sx i) d k:=by
  intro n
  induction n with
  |zero=>
   intro h1 _
   obtain rfl:i=0:=(by omega)
   rfl
  |succ n ih=>
   intro h1 h2
   by_cases Ls:n+1=i
   .subst Ls;exact head _ (Nat.le_refl _)
   rw[List.range_succ,zC7,Sc,Sc]
   cases hc:chO ops n with
   |false=>simp only[Bool.and_false,Bool.false_eq_true,if_false];exact ih (by omega) (by omega)
   |true=>
    cases hD:D n with
    |false=>simp only[Bool.and_true,Bool.false_eq_true,if_false];exact ih (by omega) (by omega)
    |true=>
     simp only[Bool.and_true,if_true]
     have Fc:i≠n:=fun h=>by subst h;rw[hi]at hD;cases hD
     have e1:=Tl n (by omega) hc (fun _=>by omega) (fun h=>by rw[hD]at h;cases h)
     have e2:=ih (by omega) (by omega)
     rw[Mh n n (Nat.le_refl _) (by omega) hc hD]at e2
     exact e1.trans e2
 exact rest _ (Nat.le_of_lt (zCU ho)) (Nat.le_refl _)
theorem Drawn.any(hd:Drawn P ops fr0 S0 V Sx){Q:Exit->List AV->ASt->Prop}(hQ:Q .normal (frD ops V (fun _=>true) (List.range ops.size) fr0) (Sx ops.size)){Pr0:Prot}{φ0:Fi2}{a0:Act}{w0:World}:
  ∀(fuel:Nat) (ba:Array Bool) (Pr:Prot) (φ:Fi2) (a:Act) (w:World),ba.size=ops.size->(∀j,j<ops.size->ba.getD j true=false->True)->((List.range ops.size).filter fun j=>!ba.getD j true).length<=fuel->zDP ops (fun j=>ba.getD j false)->
   RF Pr φ (frD ops V (fun j=>ba.getD j false) (List.range ops.size) fr0) a->Rel Pr φ (Sc ops Sx (fun j=>ba.getD j false) (List.range ops.size) (Sx 0)) w->φ≠ []->Stp Pr0 φ0 w0 Pr φ w->a.defers=a0.defers->wpAny P .any ops (Post Pr0 φ0 a0 w0 Q) fuel ba a w:=by
 obtain⟨g1,g2⟩:=zDe hd.stat
 have done:∀(ba:Array Bool) (Pr:Prot) (φ:Fi2) (a:Act) (w:World),ba.size=ops.size->Region.ready .any ops ba=[]->RF Pr φ (frD ops V (fun j=>ba.getD j false) (List.range ops.size) fr0) a->Rel Pr φ (Sc ops Sx (fun j=>ba.getD j false) (List.range ops.size) (Sx 0)) w->Stp Pr0 φ0 w0 Pr φ w->a.defers=a0.defers->Post Pr0 φ0 a0 w0 Q .normal a w:=by
  intro ba Pr φ a w cb hr hf hR hs Od
  have ia:∀i,i<ops.size->ba.getD i false=true:=by
   intro i
   induction i using Nat.strongRecOn with
   |_ i ih=>
    intro hi
    cases hl:ba.getD i false with
    |true=>rfl
    |false=>
     have ho:ops[i]? =some ops[i]:=Array.getElem?_eq_getElem hi
     have Pc:i∈Region.ready .any ops ba:=by
      refine List.mem_filter.2 ⟨List.mem_range.2 hi,?_⟩
      have rg:ba.getD i true=false:=by
       have Ae:i<ba.size:=by omega
       simp[Array.getD,Ae]at hl ⊢;exact hl
      simp only[rg,Bool.not_false,Bool.true_and,ho,Option.map_some,Option.getD_some];rw[Array.all_eq_true];intro x hx
      cases hb:Region.binds .any ops[i].after[x]with
      |false=>simp
      |true=>
       have hlt:=g1 i _ ho ops[i].after[x] (Array.getElem_mem hx) hb
       simp only[Bool.not_true,Bool.false_or];exact ih _ hlt (by omega)
     rw[hr]at Pc;cases Pc
  have e1:frD ops V (fun j=>ba.getD j false) (List.range ops.size) fr0=frD ops V (fun _=>true) (List.range ops.size) fr0:=by
   apply List.ext_getElem?
   intro t;exact zCT _ _ _ rfl rfl fun j hj _=>ia j (List.mem_range.1 hj)
  have e2:Sc ops Sx (fun j=>ba.getD j false) (List.range ops.size) (Sx 0)=Sx ops.size:=by
   rw[zC0 (D':=fun j=>decide (j<ops.size)) _ _ fun j hj _=>by rw[ia j (List.mem_range.1 hj)];simp[List.mem_range.1 hj]]
   exact hd.all_to _ (Nat.le_refl _)
  exact⟨_,_,Pr,φ,hQ,by rw[<-e1];exact hf,by rw[<-e2];exact hR,hs,Od⟩
 intro fuel
 induction fuel with
 |zero=>
  intro ba Pr φ a w cb _ Ff hJ hf hR hne hs Od
  have Yd:Region.ready .any ops ba=[]:=by
   have h0:(List.range ops.size).filter (fun j=>!ba.getD j true)=[]:=List.eq_nil_of_length_eq_zero (by omega)
   rw[List.eq_nil_iff_forall_not_mem];intro j hj
   obtain⟨h1,h2⟩:=List.mem_filter.1 hj
   simp only[Bool.and_eq_true]at h2
   have:j∈(List.range ops.size).filter (fun j=>!ba.getD j true):=List.mem_filter.2 ⟨h1,h2.1⟩
   rw[h0]at this;cases this
  exact⟨Yd,done ba Pr φ a w cb Yd hf hR hs Od⟩
 |succ fuel ih=>
  intro ba Pr φ a w cb _ Ff hJ hf hR hne hs Od;refine⟨fun hr=>done ba Pr φ a w cb hr hf hR hs Od,fun i hi=>?_⟩
  obtain⟨mb,o,ho,ia⟩:=mem_ready.1 hi
  have nl:i<ops.size:=zCU ho
  have Ae:i<ba.size:=by omega
  have Gc:ba.getD i false=false:=by
   simp[Array.getD,Ae]at mb ⊢;exact mb
  have Oa:∀e∈o.after,Region.binds .any e=true->ba.getD e.on false=true:=ia
  have Ec:∀j,(ba.setIfInBounds i true).getD j false=if j=i then true else ba.getD j false:=fun j=>by
   by_cases hj:j=i
   .subst hj;simp[Array.getD,Ae]
   rw[if_neg hj]
   simp only[Array.getD_eq_getD_getElem?];rw[Array.getElem?_setIfInBounds_ne (by omega)]
  have Ul:zDP ops (fun j=>(ba.setIfInBounds i true).getD j false):=fun j x hx hj e he hb=>by
   show(ba.setIfInBounds i true).getD e.on false=true
   rw[Ec];split
   .rfl
   by_cases Wc:j=i
   .subst Wc;rw[ho]at hx;cases hx;exact Oa e he hb
   have:ba.getD j false=true:=by
    have Ig:(ba.setIfInBounds i true).getD j false=true:=hj
    rw[Ec,if_neg Wc]at Ig;exact Ig
   exact hJ j x hx this e he hb
  have Zd:((List.range ops.size).filter fun j=>!(ba.setIfInBounds i true).getD j true).length<=fuel:=by
   have h1:((List.range ops.size).filter fun j=>!(ba.setIfInBounds i true).getD j true)=((List.range ops.size).filter fun j=>!ba.getD j true).filter (fun j=>!(j==i)):=by
    rw[List.filter_filter];refine List.filter_congr fun j hj=>?_
    by_cases Wc:j=i
    .subst Wc;simp[Array.getD,Ae]
    simp only[Array.getD_eq_getD_getElem?]
    rw[Array.getElem?_setIfInBounds_ne (by omega)]
    simp[Wc]
   have h2:i∈(List.range ops.size).filter fun j=>!ba.getD j true:=List.mem_filter.2 ⟨List.mem_range.2 nl,by rw[mb];rfl⟩
   have h3:(((List.range ops.size).filter fun j=>!ba.getD j true).filter (fun j=>!(j==i))).length<((List.range ops.size).filter fun j=>!ba.getD j true).length:=by
    refine List.length_filter_lt_length_iff_exists.2 ⟨i,h2,by simp⟩
   rw[h1];omega
  have Kb:=hd.looks (D:=fun j=>ba.getD j false) hJ ho Gc Oa
  have Jg:=zG6 Kb
  have ae:=hd.put (D:=fun j=>ba.getD j false) (D':=fun j=>(ba.setIfInBounds i true).getD j false) hJ ho Gc Oa Ec
  have go:∀(S':ASt),Sc ops Sx (fun j=>(ba.setIfInBounds i true).getD j false) (List.range ops.size) (Sx 0)=S'->∀x w' Pr' φ',Stp Pr φ w Pr' φ' w'->Rel Pr' φ' S' w'->RA Pr' φ' (V i) x->wpAny P .any ops (Post Pr0 φ0 a0 w0 Q) fuel (ba.setIfInBounds i true) (a.put o.dst x) w':=by
   intro S' Ef x w' Pr' φ' s1 s2 s3;refine ih (ba.setIfInBounds i true) Pr' φ' _ w' (by simpa using cb) (fun _ _ _=>trivial) Zd Ul ?_ ?_ (zL s1 hne) (hs.trans s1) ((zAT _ _ _).trans Od)
   .rw[ae];exact(hf.mono s1.pl s1.fl).put o.dst s3
   rw[Ef];exact s2
  have Lb:zA4 o≠2->Sc ops Sx (fun j=>(ba.setIfInBounds i true).getD j false) (List.range ops.size) (Sx 0)=Sc ops Sx (fun j=>ba.getD j false) (List.range ops.size) (Sx 0):=fun hk=>zC0 _ _ fun j _ hc=>by
   rw[Ec,if_neg (fun Wc=>?_)]
   subst Wc;simp[chO,ho]at hc;exact hk hc
  unfold wpOp;rw[ho];simp only
  rcases hd.step i o ho with⟨hw,hV,vk⟩|⟨hw,Gf⟩
  .rw[zCJ Kb]at hw
   simp only[zBP hf hw,Bool.false_eq_true,if_false];refine go _ ?_ undef w Pr φ (Stp.refl _ _ _) hR (by rw[hV];exact .un)
   by_cases hk:zA4 o=2
   .rw[hd.chain_next (D:=fun j=>ba.getD j false) hJ ho Gc Oa hk Ec,vk,hd.chain (D:=fun j=>ba.getD j false) hJ ho Gc Oa hk]
   exact Lb hk
  rw[zCJ Kb]at hw
  simp only[zBP hf hw,if_true]
  left
  rcases Gf with⟨h1,hk,_⟩|⟨ref,h1,hk,_,hm⟩|⟨hk,h1⟩
  .rw[zFq Jg]at h1
   exact zAn hf hR hne (.quiet h1) (go _ (Lb (by omega)))
  .have h2:=zHh Jg h1 (S':=Sc ops Sx (fun j=>ba.getD j false) (List.range ops.size) (Sx 0)) fun d k hr=>hd.kept (D:=fun j=>ba.getD j false) hJ ho Gc Oa (hm d k hr)
   exact zAn hf hR hne (.load h2) (go _ (Lb (by omega)))
  have Nh:=hd.chain (D:=fun j=>ba.getD j false) hJ ho Gc Oa hk
  have vi:=hd.chain_next (D:=fun j=>ba.getD j false) hJ ho Gc Oa hk Ec
  rw[Nh]at hR
  rcases h1 with⟨lg,h1⟩|⟨F,args,h1,h2⟩
  .rw[zHi Jg]at h1
   exact zAn hf hR hne (.chain h1) (go _ vi)
  rw[zDx Jg]at h1
  exact zAn hf hR hne (zDv h1 h2) (go _ vi)
theorem Drawn.region(hd:Drawn P ops fr0 S0 V Sx){Q:Exit->List AV->ASt->Prop}(hQ:Q .normal (frD ops V (fun _=>true) (List.range ops.size) fr0) (Sx ops.size)):zDw P ops fr0 S0 Q:=by
 intro Pr0 φ0 a0 w0 Pr φ a w hf hR hne hs Od
 have e0:∀j,(Array.replicate ops.size false).getD j false=false:=fun j=>by
  simp only[Array.getD_eq_getD_getElem?,Array.getElem?_replicate];split<;>rfl
 have e1:∀(l:List Nat) (fr:List AV),frD ops V (fun j=>(Array.replicate ops.size false).getD j false) l fr=fr:=fun l=>by
  induction l with
  |nil=>intro fr;rfl
  |cons j l ih=>intro fr;rw[frD,e0,if_neg (by simp),ih]
 refine hd.any hQ ops.size _ Pr φ a w (by simp) (fun _ _ _=>trivial) (Nat.le_trans (List.length_filter_le _ _) (by simp)) (fun i o ho hi=>by
  have Qd:(Array.replicate ops.size false).getD i false=true:=hi
  rw[e0]at Qd;cases Qd) (by rw[e1];exact hf) ?_ hne hs Od
 rw[hd.tail _ _ fun j _ _=>e0 j,hd.start]
 exact hR
end
end Go.Proofs.YtdflkegnmmkkoaaGreatDoor
namespace Go.Proofs.YtdflkegnmmkkoaaGreatDoor
open Go.RowKit
def zI8(ops:Array Oper):List (Nat × Nat):=
 let M:=zOq ops.toList []
 ops.toList.zipIdx.flatMap fun(o,i)=>if zA4 o==1 then
  (ops.toList.zipIdx.filter fun(x,m)=>zA4 x==2&& !((M.getD i 0).testBit m)&& !((M.getD m 0).testBit i)).map fun(_,m)=>(i,m)else []
def LCl(Ss:List ASt)(i m:Nat):List (Nat × Nat × Nat)->Prop
 | []=>True
 |(j,d,k)::ls=>(j=i->get2 (Ss.getD (m+1) []) d k=get2 (Ss.getD m []) d k)/\LCl Ss i m ls
def LCp(Ss:List ASt)(ls:List (Nat × Nat × Nat)):List (Nat × Nat)->Prop
 | []=>True
 |(i,m)::jb=>LCl Ss i m ls/\LCp Ss ls jb
def refL(i:Nat):Option (Nat × Nat)->List (Nat × Nat × Nat)
 |some (d,k)=>[(i,d,k)]
 |none=>[]
def awpD(P:Program)(ops:Array Oper)(jb:List (Nat × Nat))(K:List AV->ASt->Prop):List Oper->Nat->List AV->ASt->List AV->List ASt->List (Nat × Nat × Nat)->Prop
 | [],_,fr,S,_,Ss,ls=>LCp Ss ls jb/\K fr S
 |o::os,i,fr,S,Vs,Ss,ls=>
  match zBk ops o fr with
  |some true=>
   match zCl o fr with
   |some (F,args)=>∃r S',ADet P F args S r S'/\awpD P ops jb K os (i+1) (putA fr o.dst r) S' (Vs++[r]) (Ss++[S']) ls
   |none=>
    match evL P o fr S with
    |some (v,ref)=>awpD P ops jb K os (i+1) (putA fr o.dst v) S (Vs++[v]) (Ss++[S]) (ls++refL i ref)
    |none=>
     match zDu P o fr S with
     |some (v,S')=>awpD P ops jb K os (i+1) (putA fr o.dst v) S' (Vs++[v]) (Ss++[S']) ls
     |none=>False
  |some false=>awpD P ops jb K os (i+1) (putA fr o.dst .un) S (Vs++[.un]) (Ss++[S]) ls
  |none=>False
theorem zW{P:Program}{ops:Array Oper}{jb:List (Nat × Nat)}{K:List AV->ASt->Prop}{i:Nat}{fr:List AV}{S:ASt}{Vs:List AV}{Ss:List ASt}{ls:List (Nat × Nat × Nat)}:awpD P ops jb K [] i fr S Vs Ss ls=(LCp Ss ls jb/\K fr S):=by rw[awpD]
def zZA(P:Program)(ops:Array Oper)(jb:List (Nat × Nat))(K:List AV->ASt->Prop)(os:List Oper)(i:Nat)(fr:List AV)(dst:Option Nat)(Vs:List AV)(Ss:List ASt)(ls:List (Nat × Nat × Nat))(r:AV)(S:ASt):Prop:=awpD P ops jb K os i (putA fr dst r) S (Vs++[r]) (Ss++[S]) ls
theorem zX{P:Program}{ops:Array Oper}{jb:List (Nat × Nat)}{K:List AV->ASt->Prop}(os:List Oper)(i:Nat){fr:List AV}(dst:Option Nat){Vs:List AV}{Ss:List ASt}{ls:List (Nat × Nat × Nat)}(r:AV){S:ASt}:zZA P ops jb K os i fr dst Vs Ss ls r S=awpD P ops jb K os i (putA fr dst r) S (Vs++[r]) (Ss++[S]) ls:=rfl
theorem zN{P:Program}{ops:Array Oper}{jb:List (Nat × Nat)}{K:List AV->ASt->Prop}(o:Oper)(os:List Oper){i:Nat}{fr:List AV}{S:ASt}{Vs:List AV}{Ss:List ASt}{ls:List (Nat × Nat × Nat)}:awpD P ops jb K (o::os) i fr S Vs Ss ls=(match zBk ops o fr with
  |some true=>
   match zCl o fr with
   |some (F,args)=>CallQ P F args S (zZA P ops jb K os (i+1) fr o.dst Vs Ss ls)
   |none=>
    match evL P o fr S with
    |some (v,ref)=>awpD P ops jb K os (i+1) (putA fr o.dst v) S (Vs++[v]) (Ss++[S]) (ls++refL i ref)
    |none=>
     match zDu P o fr S with
     |some (v,S')=>awpD P ops jb K os (i+1) (putA fr o.dst v) S' (Vs++[v]) (Ss++[S']) ls
     |none=>False
  |some false=>awpD P ops jb K os (i+1) (putA fr o.dst .un) S (Vs++[.un]) (Ss++[S]) ls
  |none=>False):=by rw[awpD]<;>rfl
section
variable{P:Program}{ops:Array Oper}{fr0:List AV}
theorem zHk{V V':Nat->AV}{D:Nat->Bool}:∀(l:List Nat) (fr:List AV),(∀j∈l,D j=true->V j=V' j)->frD ops V D l fr=frD ops V' D l fr
 | [],fr,_=>rfl
 |j::l,fr,h=>by
  have e:(if D j=true then putA fr (dstO ops j) (V j)else fr)=(if D j=true then putA fr (dstO ops j) (V' j)else fr):=by
   split
   .rename_i hd;rw[h j (by simp) hd]
   rfl
  rw[frD,frD,e];exact zHk l _ fun k hk=>h k (List.mem_cons_of_mem _ hk)
theorem zG7{α:Type}{l:List α}{x d:α}{j:Nat}(h:j<l.length):(l++[x]).getD j d=l.getD j d:=by
 simp[List.getD,List.getElem?_append_left h]
theorem zG8{α:Type}{l:List α}{x d:α}:(l++[x]).getD l.length d=x:=by simp[List.getD]
def zMJ(P:Program)(ops:Array Oper)(fr0:List AV)(V:Nat->AV)(Sx:Nat->ASt)(ls:List (Nat × Nat × Nat))(i:Nat):Prop:=∀o,ops[i]? =some o->
  (zBk ops o (frD ops V (fun j=>decide (j<i)) (List.range i) fr0)=some false/\V i= .un/\Sx (i+1)=Sx i)\/
  (zBk ops o (frD ops V (fun j=>decide (j<i)) (List.range i) fr0)=some true/\
   ((evP P o (frD ops V (fun j=>decide (j<i)) (List.range i) fr0)=some (V i)/\zA4 o=0/\Sx (i+1)=Sx i)\/
    (∃ref,evL P o (frD ops V (fun j=>decide (j<i)) (List.range i) fr0) (Sx i)=some (V i,ref)/\zA4 o=1/\Sx (i+1)=Sx i/\∀d k,ref=some (d,k)->(i,d,k)∈ls)\/
    (zA4 o=2/\((∃lg,evC P o (frD ops V (fun j=>decide (j<i)) (List.range i) fr0) (Sx i)=some (V i,Sx (i+1),lg))\/(∃F args,zCl o (frD ops V (fun j=>decide (j<i)) (List.range i) fr0)=some (F,args)/\ADet P F args (Sx i) (V i) (Sx (i+1)))))))
theorem zMJ.ext{V V':Nat->AV}{Sx Mq:Nat->ASt}{ls Kg:List (Nat × Nat × Nat)}{i:Nat}(h:zMJ P ops fr0 V Sx ls i)(hV:∀j,j<=i->V' j=V j)(hS:∀j,j<=i+1->Mq j=Sx j)(hl:∀x∈ls,x∈Kg):zMJ P ops fr0 V' Mq Kg i:=by
 intro o ho
 have e:frD ops V' (fun j=>decide (j<i)) (List.range i) fr0=frD ops V (fun j=>decide (j<i)) (List.range i) fr0:=zHk _ _ fun j hj _=>hV j (by have:=List.mem_range.1 hj;omega)
 rw[e,hV i (Nat.le_refl _),hS i (by omega),hS (i+1) (Nat.le_refl _)]
 rcases h o ho with h|⟨h1,h|⟨ref,h2,h3,h4,h5⟩|h⟩
 .exact .inl h
 .exact .inr ⟨h1,.inl h⟩
 .exact .inr ⟨h1,.inr (.inl ⟨ref,h2,h3,h4,fun d k hr=>hl _ (h5 d k hr)⟩)⟩
 exact .inr ⟨h1,.inr (.inr h)⟩
theorem zQl{o:Oper}{fr:List AV}{S:ASt}{r:AV × Option (Nat × Nat)}(h:evL P o fr S=some r):zA4 o=1:=by
 unfold evL at h;unfold zA4;split at h
 .rename_i ho;simp[ho]
 .rename_i ho;simp[ho]
 .rename_i ho;simp[ho]
 .rename_i ho
  split at h
  .rename_i ht;simp[ho,ht]
  cases h
 cases h
theorem zQm{o:Oper}{fr:List AV}{r:FuncId × List AV}(h:zCl o fr=some r):zA4 o=2:=by
 unfold zCl at h;unfold zA4;split at h
 .rename_i c ho
  split at h
  .rename_i f hf
   simp[ho,hf]
  cases h
 cases h
theorem zOs{o:Oper}{fr:List AV}{S S':ASt}{v:AV}(h:zDu P o fr S=some (v,S'))(hl:evL P o fr S=none):(evP P o fr=some v/\zA4 o=0/\S'=S)\/(zA4 o=2/\∃lg,evC P o fr S=some (v,S',lg)):=by
 have hc:(evC P o fr S).map (fun r=>(r.1,r.2.1))=some (v,S')->∃lg,evC P o fr S=some (v,S',lg):=fun h=>by
  obtain⟨⟨v1,S1,lg⟩,h1,h2⟩:=Option.map_eq_some_iff.1 h
  cases h2;exact⟨lg,h1⟩
 have hp:(evP P o fr).map (fun v=>(v,S))=some (v,S')->evP P o fr=some v/\S'=S:=fun h=>by
  obtain⟨v1,h1,h2⟩:=Option.map_eq_some_iff.1 h
  cases h2;exact⟨h1,rfl⟩
 unfold zDu at h;split at h
 .rw[hl]at h;cases h
 .rw[hl]at h;cases h
 .rw[hl]at h;cases h
 .rename_i ho;exact .inr ⟨by simp[zA4,ho],hc h⟩
 .rename_i ho;exact .inr ⟨by simp[zA4,ho],hc h⟩
 .rename_i ho;exact .inr ⟨by simp[zA4,ho],hc h⟩
 .rename_i ho
  split at h
  .cases h
  rename_i ht;exact .inr ⟨by simp[zA4,ho,ht],hc h⟩
 .rename_i ho;exact .inr ⟨by simp[zA4,ho],hc h⟩
 .rename_i ho;exact .inr ⟨by simp[zA4,ho],hc h⟩
 .rename_i ho;exact .inr ⟨by simp[zA4,ho],hc h⟩
 .rename_i ho;exact .inr ⟨by simp[zA4,ho],hc h⟩
 .rename_i ho;exact .inr ⟨by simp[zA4,ho],hc h⟩
 .rename_i c ho
  split at h
  .rename_i Bf;exact .inr ⟨by simp[zA4,ho,Bf],hc h⟩
  .rename_i b Cv Wi
   obtain⟨h1,h2⟩:=hp h
   refine .inl ⟨h1,?_,h2⟩;unfold zA4;simp only[ho,Wi]
  cases h
 rename_i h1 h7 h8 h2 h3 h4 h5 h9 h10 Oi xd Xe h6
 obtain⟨g1,g2⟩:=hp h
 refine .inl ⟨g1,?_,g2⟩;unfold zA4;split
 .rename_i ho;exact absurd ho (h1 _ _)
 .rename_i ho;exact absurd ho (h7 _ _ _)
 .rename_i ho;exact absurd ho (h8 _ _ _ _)
 .rename_i ho;exact absurd ho (h2 _ _ _)
 .rename_i ho;exact absurd ho (h3 _ _)
 .rename_i ho;exact absurd ho (h4 _)
 .rename_i ho;exact absurd ho (h5 _ _ _)
 .rename_i ho;exact absurd ho (h9 _ _)
 .rename_i ho;exact absurd ho (h10 _ _ _ _)
 .rename_i ho;exact absurd ho (Oi _ _ _ _)
 .rename_i ho;exact absurd ho (xd _ _ _)
 .rename_i ho;exact absurd ho (Xe _ _ _ _)
 .rename_i ho;exact absurd ho (h6 _)
 rfl
theorem zK3{jb:List (Nat × Nat)}{K:List AV->ASt->Prop}:∀(os:List Oper) (i:Nat) (fr:List AV) (S:ASt) (Vs:List AV) (Ss:List ASt) (ls:List (Nat × Nat × Nat)),i<=ops.size->ops.toList.drop i=os->Vs.length=i->Ss.length=i+1->Ss.getD i []=S->fr=frD ops (fun j=>Vs.getD j .un) (fun j=>decide (j<i)) (List.range i) fr0->
  (∀j,j<i->zMJ P ops fr0 (fun j=>Vs.getD j .un) (fun j=>Ss.getD j []) ls j)->awpD P ops jb K os i fr S Vs Ss ls->
  ∃(Ak:List AV) (Oh:List ASt) (Kg:List (Nat × Nat × Nat)),(∀j,j<ops.size->zMJ P ops fr0 (fun j=>Ak.getD j .un) (fun j=>Oh.getD j []) Kg j)/\LCp Oh Kg jb/\K (frD ops (fun j=>Ak.getD j .un) (fun j=>decide (j<ops.size)) (List.range ops.size) fr0) (Oh.getD ops.size [])/\Oh.getD 0 []=Ss.getD 0 []
 | [],i,fr,S,Vs,Ss,ls,hile,hi,hV,hS,Nh,hf,hfact,h=>by
  obtain⟨h1,h2⟩:=h
  have oa:ops.size<=i:=by
   have:=congrArg List.length hi
   simp at this;omega
  have Yi:∀j,j<ops.size->j<i:=fun j hj=>by omega
  refine⟨Vs,Ss,ls,fun j hj=>hfact j (Yi j hj),h1,?_,rfl⟩
  obtain rfl:i=ops.size:=(by omega)
  rw[<-hf,Nh];exact h2
 |o::os,i,fr,S,Vs,Ss,ls,hile,hi,hV,hS,Nh,hf,hfact,h=>by
  have ho:ops[i]? =some o:=by
   have:(ops.toList.drop i)[0]? =some o:=by rw[hi];rfl
   rw[List.getElem?_drop]at this
   simpa using this
  have Qd:ops.toList.drop (i+1)=os:=by rw[<-List.drop_drop,hi];rfl
  have next:∀(v:AV) (S':ASt) (Kg:List (Nat × Nat × Nat)),(∀x∈ls,x∈Kg)->zMJ P ops fr0 (fun j=>(Vs++[v]).getD j .un) (fun j=>(Ss++[S']).getD j []) Kg i->awpD P ops jb K os (i+1) (putA fr o.dst v) S' (Vs++[v]) (Ss++[S']) Kg->
    ∃(Ak:List AV) (Oh:List ASt) (Kg:List (Nat × Nat × Nat)),(∀j,j<ops.size->zMJ P ops fr0 (fun j=>Ak.getD j .un) (fun j=>Oh.getD j []) Kg j)/\LCp Oh Kg jb/\K (frD ops (fun j=>Ak.getD j .un) (fun j=>decide (j<ops.size)) (List.range ops.size) fr0) (Oh.getD ops.size [])/\Oh.getD 0 []=Ss.getD 0 []:=by
   intro v S' Kg hl Uc Fa
   have Nq:∀j,j<i->(Vs++[v]).getD j .un=Vs.getD j .un:=fun j hj=>zG7 (by omega)
   have ol:(Vs++[v]).getD i .un=v:=by rw[<-hV];exact zG8
   have Oq:∀j,j<i+1->(Ss++[S']).getD j []=Ss.getD j []:=fun j hj=>zG7 (by omega)
   have jo:(Ss++[S']).getD (i+1) []=S':=by rw[<-hS];exact zG8
   obtain⟨Ak,Oh,ko,k1,k2,k3,k4⟩:=zK3 os (i+1) _ S' (Vs++[v]) (Ss++[S']) Kg (zCU ho) Qd (by simp[hV]) (by simp[hS]) jo (by
    rw[List.range_succ,zDf,frD,frD]
    have e1:frD ops (fun j=>(Vs++[v]).getD j .un) (fun j=>decide (j<i+1)) (List.range i) fr0=fr:=by
     rw[hf]
     have:∀(l:List Nat) (fr:List AV),(∀j∈l,j<i)->frD ops (fun j=>(Vs++[v]).getD j .un) (fun j=>decide (j<i+1)) l fr=frD ops (fun j=>Vs.getD j .un) (fun j=>decide (j<i)) l fr:=by
      intro l
      induction l with
      |nil=>intro fr _;rfl
      |cons j l ih=>
       intro fr hl
       have hj:=hl j (by simp)
       rw[frD,frD,Nq j hj];simp only[show j<i+1 by omega,hj,decide_true,if_true]
       exact ih _ fun k hk=>hl k (List.mem_cons_of_mem _ hk)
     exact this _ _ fun j hj=>List.mem_range.1 hj
    rw[e1,ol];simp[dstO,ho]) (fun j hj=>by
    by_cases Wc:j=i
    .subst Wc;exact Uc
    exact(hfact j (by omega)).ext (fun k hk=>Nq k (by omega)) (fun k hk=>Oq k (by omega)) hl) Fa
   exact⟨Ak,Oh,ko,k1,k2,k3,k4.trans (Oq 0 (by omega))⟩
  have ol:∀v:AV,(Vs++[v]).getD i .un=v:=fun v=>by rw[<-hV];exact zG8
  have Zi:∀S':ASt,(Ss++[S']).getD i []=S:=fun S'=>by rw[zG7 (by omega)];exact Nh
  have aj:∀S':ASt,(Ss++[S']).getD (i+1) []=S':=fun S'=>by rw[<-hS];exact zG8
  have nb:∀v:AV,frD ops (fun j=>(Vs++[v]).getD j .un) (fun j=>decide (j<i)) (List.range i) fr0=fr:=fun v=>by
   rw[hf];exact zHk _ _ fun j hj _=>zG7 (by have:=List.mem_range.1 hj;omega)
  simp only[awpD]at h;split at h
  .rename_i hw
   split at h
   .rename_i F args hc
    obtain⟨r,S',h1,h2⟩:=h
    refine next r S' ls (fun x hx=>hx) (fun o' ya=>?_) h2
    rw[ho]at ya;cases ya;simp only[nb,ol,Zi,aj];exact .inr ⟨hw,.inr (.inr ⟨zQm hc,.inr ⟨F,args,hc,h1⟩⟩)⟩
   split at h
   .rename_i v ref hl
    refine next v S (ls++refL i ref) (fun x hx=>List.mem_append_left _ hx) (fun o' ya=>?_) h
    rw[ho]at ya;cases ya;simp only[nb,ol,Zi,aj];refine .inr ⟨hw,.inr (.inl ⟨ref,hl,zQl hl,trivial,fun d k hr=>?_⟩)⟩
    subst hr;exact List.mem_append_right _ (by simp[refL])
   rename_i hl
   split at h
   .rename_i v S' hs
    refine next v S' ls (fun x hx=>hx) (fun o' ya=>?_) h
    rw[ho]at ya;cases ya;simp only[nb,ol,Zi,aj]
    rcases zOs hs hl with⟨g1,g2,rfl⟩|⟨g1,g2⟩
    .exact .inr ⟨hw,.inl ⟨g1,g2,rfl⟩⟩
    exact .inr ⟨hw,.inr (.inr ⟨g1,.inl g2⟩)⟩
   exact h.elim
  .rename_i hw
   refine next .un S ls (fun x hx=>hx) (fun o' ya=>?_) h
   rw[ho]at ya;cases ya;simp only[nb,ol,Zi,aj];exact .inl ⟨hw,trivial,trivial⟩
  exact h.elim
theorem zQn{Ss:List ASt}{i m d k:Nat}:∀{ls:List (Nat × Nat × Nat)},LCl Ss i m ls->(i,d,k)∈ls->get2 (Ss.getD (m+1) []) d k=get2 (Ss.getD m []) d k
 |(j,d',k')::ls,⟨h1,h2⟩,h=>by
  rcases List.mem_cons.1 h with h|h
  .cases h;exact h1 rfl
  exact zQn h2 h
theorem zQo{Ss:List ASt}{ls:List (Nat × Nat × Nat)}{i m:Nat}:∀{jb:List (Nat × Nat)},LCp Ss ls jb->(i,m)∈jb->LCl Ss i m ls
 |(i',m')::jb,⟨h1,h2⟩,h=>by
  rcases List.mem_cons.1 h with h|h
  .cases h;exact h1
  exact zQo h2 h
theorem zJv{fr:List AV}{S:ASt}{K:List AV->ASt->Prop}(jb:List (Nat × Nat))(Ca:zK2 ops=true)(bf:zI8 ops=jb)(h:awpD P ops jb K ops.toList 0 fr S [] [S] []):∃V Sx,Drawn P ops fr S V Sx/\K (frD ops V (fun _=>true) (List.range ops.size) fr) (Sx ops.size):=by
 obtain⟨Vs,Ss,ls,h1,h2,h3,h4⟩:=zK3 (fr0:=fr) ops.toList 0 fr S [] [S] [] (Nat.zero_le _) rfl rfl rfl rfl rfl (fun j hj=>by omega) h
 have hd:Drawn P ops fr S (fun j=>Vs.getD j .un) (fun j=>Ss.getD j []):=by
  refine⟨Ca,h4,fun i o ho=>?_⟩
  rcases h1 i (zCU ho) o ho with h|⟨g1,h|⟨ref,g2,g3,g4,g5⟩|h⟩
  .exact .inl h
  .exact .inr ⟨g1,.inl h⟩
  .refine .inr ⟨g1,.inr (.inl ⟨ref,g2,g3,g4,fun d k hr m hm hc=>?_⟩)⟩
   cases nc:ordB ops m i with
   |true=>exact .inl rfl
   |false=>
    cases Vl:ordB ops i m with
    |true=>exact .inr (.inl rfl)
    |false=>
     refine .inr (.inr (zQn (zQo h2 ?_) (g5 d k hr)))
     rw[<-bf];unfold zI8;refine List.mem_flatMap.2 ⟨(o,i),List.mem_zipIdx_iff_getElem?.2 (by simpa using ho),?_⟩
     simp only[g3,beq_self_eq_true,if_true]
     have hx:ops[m]? =some ops[m]:=Array.getElem?_eq_getElem hm
     refine List.mem_map.2 ⟨(ops[m],m),List.mem_filter.2 ⟨List.mem_zipIdx_iff_getElem?.2 (by simp),?_⟩,rfl⟩
     have If:zA4 ops[m]=2:=by simpa [chO,hx]using hc
     simp only[If,beq_self_eq_true,Bool.true_and,Bool.and_eq_true,Bool.not_eq_true'];exact⟨nc,Vl⟩
  exact .inr ⟨g1,.inr (.inr h)⟩
 refine⟨_,_,hd,?_⟩
 have e:frD ops (fun j=>Vs.getD j .un) (fun _=>true) (List.range ops.size) fr=frD ops (fun j=>Vs.getD j .un) (fun j=>decide (j<ops.size)) (List.range ops.size) fr:=by
  apply List.ext_getElem?
  intro t;exact zCT _ _ _ rfl rfl fun j hj _=>by simp[List.mem_range.1 hj]
 rw[e];exact h3
theorem zB{id:Nat}{fr:List AV}{S:ASt}{Q:Exit->List AV->ASt->Prop}(jb:List (Nat × Nat))(Ca:zK2 ops=true)(bf:zI8 ops=jb)(h:awpD P ops jb (Q .normal) ops.toList 0 fr S [] [S] []):awp P (.region id ops true) fr S Q:=by
 obtain⟨V,Sx,hd,hK⟩:=zJv jb Ca bf h
 exact hd.region hK
theorem dB{id:Nat}{fr:List AV}{S:ASt}{Q:Exit->List AV->ASt->Prop}(jb:List (Nat × Nat))(hb:(zK2 ops&&zI8 ops==jb)=true)(h:awpD P ops jb (Q .normal) ops.toList 0 fr S [] [S] []):awp P (.region id ops true) fr S Q:=zB jb ((Bool.and_eq_true _ _).mp hb).1 (eq_of_beq ((Bool.and_eq_true _ _).mp hb).2) h
end
end Go.Proofs.YtdflkegnmmkkoaaGreatDoor
namespace Go.Proofs.YtdflkegnmmkkoaaGreatDoor
open Go.RowKit
section
variable{P:Program}{ops:Array Oper}{fr0:List AV}{V:Nat->AV}{Sx:Nat->ASt}{S0:ASt}
theorem Drawn.anyX(hd:Drawn P ops fr0 S0 V Sx){ph:Array Oper}(Qe:ph.size=ops.size)(Bk:∀(k:Nat) (o:Oper),ph[k]? =some o->∃o':Oper,ops[k]? =some o'/\o'.after=o.after){X:(Nat->Bool)->Prot->Fi2->Act->World->Prop}{Q:Exit->List AV->ASt->Prop}(hQ:Q .normal (frD ops V (fun _=>true) (List.range ops.size) fr0) (Sx ops.size)){Pr0:Prot}{φ0:Fi2}{a0:Act}{w0:World}
  (Gf:∀(D D':Nat->Bool) (i:Nat) (oc o:Oper) (fr:List AV) (S S':ASt) (v:AV) Pr φ (a:Act) (w:World),ph[i]? =some oc->ops[i]? =some o->zDP ops D->D i=false->(∀e∈o.after,Region.binds .any e=true->D e.on=true)->(∀j,D' j=if j=i then true else D j)->RF Pr φ fr a->Rel Pr φ S w->φ≠ []->Stp Pr0 φ0 w0 Pr φ w->X D Pr φ a w->
   ((zBk ops o fr=some false/\v= .un/\S'=S)\/(zBk ops o fr=some true/\Stepped P o fr S v S'))->∀K:Act->World->Prop,
   (∀a' w' Pr' φ',RF Pr' φ' (putA fr o.dst v) a'->Rel Pr' φ' S' w'->φ'≠ []->Stp Pr0 φ0 w0 Pr' φ' w'->a'.defers=a.defers->X D' Pr' φ' a' w'->K a' w')->wpOp P ph (Post Pr0 φ0 a0 w0 Q) i K a w):
  ∀(fuel:Nat) (ba:Array Bool) (Pr:Prot) (φ:Fi2) (a:Act) (w:World),ba.size=ops.size->(∀j,j<ops.size->ba.getD j true=false->True)->((List.range ops.size).filter fun j=>!ba.getD j true).length<=fuel->zDP ops (fun j=>ba.getD j false)->
   RF Pr φ (frD ops V (fun j=>ba.getD j false) (List.range ops.size) fr0) a->Rel Pr φ (Sc ops Sx (fun j=>ba.getD j false) (List.range ops.size) (Sx 0)) w->φ≠ []->Stp Pr0 φ0 w0 Pr φ w->a.defers=a0.defers->X (fun j=>ba.getD j false) Pr φ a w->wpAny P .any ph (Post Pr0 φ0 a0 w0 Q) fuel ba a w:=by
 obtain⟨g1,g2⟩:=zDe hd.stat
 have Zg:∀ba,Region.ready .any ph ba=Region.ready .any ops ba:=fun ba=>by
  unfold Region.ready;rw[Qe];refine List.filter_congr fun j hj=>?_
  have ql:j<ph.size:=by rw[Qe];exact List.mem_range.1 hj
  obtain⟨o',ya,ha⟩:=Bk j _ (Array.getElem?_eq_getElem ql)
  rw[Array.getElem?_eq_getElem ql,ya];simp only[Option.map_some,Option.getD_some,ha]
 have done:∀(ba:Array Bool) (Pr:Prot) (φ:Fi2) (a:Act) (w:World),ba.size=ops.size->Region.ready .any ops ba=[]->RF Pr φ (frD ops V (fun j=>ba.getD j false) (List.range ops.size) fr0) a->Rel Pr φ (Sc ops Sx (fun j=>ba.getD j false) (List.range ops.size) (Sx 0)) w->Stp Pr0 φ0 w0 Pr φ w->a.defers=a0.defers->Post Pr0 φ0 a0 w0 Q .normal a w:=by
  intro ba Pr φ a w cb hr hf hR hs Od
  have ia:∀i,i<ops.size->ba.getD i false=true:=by
   intro i
   induction i using Nat.strongRecOn with
   |_ i ih=>
    intro hi
    cases hl:ba.getD i false with
    |true=>rfl
    |false=>
     have ho:ops[i]? =some ops[i]:=Array.getElem?_eq_getElem hi
     have Pc:i∈Region.ready .any ops ba:=by
      refine List.mem_filter.2 ⟨List.mem_range.2 hi,?_⟩
      have rg:ba.getD i true=false:=by
       have Ae:i<ba.size:=by omega
       simp[Array.getD,Ae]at hl ⊢;exact hl
      simp only[rg,Bool.not_false,Bool.true_and,ho,Option.map_some,Option.getD_some];rw[Array.all_eq_true];intro x hx
      cases hb:Region.binds .any ops[i].after[x]with
      |false=>simp
      |true=>
       have hlt:=g1 i _ ho ops[i].after[x] (Array.getElem_mem hx) hb
       simp only[Bool.not_true,Bool.false_or];exact ih _ hlt (by omega)
     rw[hr]at Pc;cases Pc
  have e1:frD ops V (fun j=>ba.getD j false) (List.range ops.size) fr0=frD ops V (fun _=>true) (List.range ops.size) fr0:=by
   apply List.ext_getElem?
   intro t;exact zCT _ _ _ rfl rfl fun j hj _=>ia j (List.mem_range.1 hj)
  have e2:Sc ops Sx (fun j=>ba.getD j false) (List.range ops.size) (Sx 0)=Sx ops.size:=by
   rw[zC0 (D':=fun j=>decide (j<ops.size)) _ _ fun j hj _=>by rw[ia j (List.mem_range.1 hj)];simp[List.mem_range.1 hj]]
   exact hd.all_to _ (Nat.le_refl _)
  exact⟨_,_,Pr,φ,hQ,by rw[<-e1];exact hf,by rw[<-e2];exact hR,hs,Od⟩
 intro fuel
 induction fuel with
 |zero=>
  intro ba Pr φ a w cb _ Ff hJ hf hR hne hs Od hX
  have Yd:Region.ready .any ops ba=[]:=by
   have h0:(List.range ops.size).filter (fun j=>!ba.getD j true)=[]:=List.eq_nil_of_length_eq_zero (by omega)
   rw[List.eq_nil_iff_forall_not_mem];intro j hj
   obtain⟨h1,h2⟩:=List.mem_filter.1 hj
   simp only[Bool.and_eq_true]at h2
   have:j∈(List.range ops.size).filter (fun j=>!ba.getD j true):=List.mem_filter.2 ⟨h1,h2.1⟩
   rw[h0]at this;cases this
  exact⟨by rw[Zg];exact Yd,done ba Pr φ a w cb Yd hf hR hs Od⟩
 |succ fuel ih=>
  intro ba Pr φ a w cb _ Ff hJ hf hR hne hs Od hX;refine⟨fun hr=>done ba Pr φ a w cb (by rw[<-Zg];exact hr) hf hR hs Od,fun i hi=>?_⟩
  rw[Zg]at hi
  obtain⟨mb,o,ho,ia⟩:=mem_ready.1 hi
  have nl:i<ops.size:=zCU ho
  have Ae:i<ba.size:=by omega
  have Gc:ba.getD i false=false:=by
   simp[Array.getD,Ae]at mb ⊢;exact mb
  have Oa:∀e∈o.after,Region.binds .any e=true->ba.getD e.on false=true:=ia
  have Ec:∀j,(ba.setIfInBounds i true).getD j false=if j=i then true else ba.getD j false:=fun j=>by
   by_cases hj:j=i
   .subst hj;simp[Array.getD,Ae]
   rw[if_neg hj]
   simp only[Array.getD_eq_getD_getElem?];rw[Array.getElem?_setIfInBounds_ne (by omega)]
  have Ul:zDP ops (fun j=>(ba.setIfInBounds i true).getD j false):=fun j x hx hj e he hb=>by
   show(ba.setIfInBounds i true).getD e.on false=true
   rw[Ec];split
   .rfl
   by_cases Wc:j=i
   .subst Wc;rw[ho]at hx;cases hx;exact Oa e he hb
   have:ba.getD j false=true:=by
    have Ig:(ba.setIfInBounds i true).getD j false=true:=hj
    rw[Ec,if_neg Wc]at Ig;exact Ig
   exact hJ j x hx this e he hb
  have Zd:((List.range ops.size).filter fun j=>!(ba.setIfInBounds i true).getD j true).length<=fuel:=by
   have h1:((List.range ops.size).filter fun j=>!(ba.setIfInBounds i true).getD j true)=((List.range ops.size).filter fun j=>!ba.getD j true).filter (fun j=>!(j==i)):=by
    rw[List.filter_filter];refine List.filter_congr fun j hj=>?_
    by_cases Wc:j=i
    .subst Wc;simp[Array.getD,Ae]
    simp only[Array.getD_eq_getD_getElem?]
    rw[Array.getElem?_setIfInBounds_ne (by omega)]
    simp[Wc]
   have h2:i∈(List.range ops.size).filter fun j=>!ba.getD j true:=List.mem_filter.2 ⟨List.mem_range.2 nl,by rw[mb];rfl⟩
   have h3:(((List.range ops.size).filter fun j=>!ba.getD j true).filter (fun j=>!(j==i))).length<((List.range ops.size).filter fun j=>!ba.getD j true).length:=by
    refine List.length_filter_lt_length_iff_exists.2 ⟨i,h2,by simp⟩
   rw[h1];omega
  have Kb:=hd.looks (D:=fun j=>ba.getD j false) hJ ho Gc Oa
  have Jg:=zG6 Kb
  have ae:=hd.put (D:=fun j=>ba.getD j false) (D':=fun j=>(ba.setIfInBounds i true).getD j false) hJ ho Gc Oa Ec
  have Lb:zA4 o≠2->Sc ops Sx (fun j=>(ba.setIfInBounds i true).getD j false) (List.range ops.size) (Sx 0)=Sc ops Sx (fun j=>ba.getD j false) (List.range ops.size) (Sx 0):=fun hk=>zC0 _ _ fun j _ hc=>by
   rw[Ec,if_neg (fun Wc=>?_)]
   subst Wc;simp[chO,ho]at hc;exact hk hc
  have Ms:i<ph.size:=by rw[Qe];exact nl
  have cg:ph[i]? =some ph[i]:=Array.getElem?_eq_getElem Ms
  have go:∀(S S':ASt),Rel Pr φ S w->Sc ops Sx (fun j=>(ba.setIfInBounds i true).getD j false) (List.range ops.size) (Sx 0)=S'->((zBk ops o (frD ops V (fun j=>ba.getD j false) (List.range ops.size) fr0)=some false/\V i= .un/\S'=S)\/(zBk ops o (frD ops V (fun j=>ba.getD j false) (List.range ops.size) fr0)=some true/\Stepped P o (frD ops V (fun j=>ba.getD j false) (List.range ops.size) fr0) S (V i) S'))->wpOp P ph (Post Pr0 φ0 a0 w0 Q) i (wpAny P .any ph (Post Pr0 φ0 a0 w0 Q) fuel (ba.setIfInBounds i true)) a w:=by
   intro S S' Ns Ef Ca;refine Gf (fun j=>ba.getD j false) (fun j=>(ba.setIfInBounds i true).getD j false) i _ o _ S S' (V i) Pr φ a w cg ho hJ Gc Oa Ec hf Ns hne hs hX Ca _ fun a' w' Pr' φ' k1 k2 k3 k4 k5 k6=>?_
   refine ih (ba.setIfInBounds i true) Pr' φ' _ w' (by simpa using cb) (fun _ _ _=>trivial) Zd Ul ?_ ?_ k3 k4 (k5.trans Od) k6
   .rw[ae];exact k1
   rw[Ef];exact k2
  rcases hd.step i o ho with⟨hw,hV,vk⟩|⟨hw,Ca⟩
  .rw[zCJ Kb]at hw
   by_cases hk:zA4 o=2
   .have Nh:=hd.chain (D:=fun j=>ba.getD j false) hJ ho Gc Oa hk
    rw[Nh]at hR;exact go _ _ hR (hd.chain_next (D:=fun j=>ba.getD j false) hJ ho Gc Oa hk Ec) (.inl ⟨hw,hV,vk⟩)
   exact go _ _ hR (Lb hk) (.inl ⟨hw,hV,rfl⟩)
  rw[zCJ Kb]at hw
  rcases Ca with⟨h1,hk,_⟩|⟨ref,h1,hk,_,hm⟩|⟨hk,h1⟩
  .rw[zFq Jg]at h1
   exact go _ _ hR (Lb (by omega)) (.inr ⟨hw,.quiet h1⟩)
  .have h2:=zHh Jg h1 (S':=Sc ops Sx (fun j=>ba.getD j false) (List.range ops.size) (Sx 0)) fun d k hr=>hd.kept (D:=fun j=>ba.getD j false) hJ ho Gc Oa (hm d k hr)
   exact go _ _ hR (Lb (by omega)) (.inr ⟨hw,.load h2⟩)
  have Nh:=hd.chain (D:=fun j=>ba.getD j false) hJ ho Gc Oa hk
  have vi:=hd.chain_next (D:=fun j=>ba.getD j false) hJ ho Gc Oa hk Ec
  rw[Nh]at hR
  rcases h1 with⟨lg,h1⟩|⟨F,args,h1,h2⟩
  .rw[zHi Jg]at h1
   exact go _ _ hR vi (.inr ⟨hw,.chain h1⟩)
  rw[zDx Jg]at h1
  exact go _ _ hR vi (.inr ⟨hw,zDv h1 h2⟩)
end
end Go.Proofs.YtdflkegnmmkkoaaGreatDoor
namespace Go.Proofs.YtdflkegnmmkkoaaGreatDoor
open Go.RowKit
def zAU(L:List (Nat × Nat × Nat))(k:Nat)(o:Oper):Oper:=
 match L.find? (fun p=>p.1==k)with
 |some _=>{o with op:=.move (.global 0)}
 |none=>
  match L.find? (fun p=>p.2.1==k),o.op with
  |some p,.store t _ v=>{o with dst:=some p.2.2,op:=.box t v}
  |_,_=>o
def zAi(L:List (Nat × Nat × Nat)):Nat->List Oper->List Oper
 |_,[]=>[]
 |k,o::os=>zAU L k o::zAi L (k+1) os
theorem zK4(L:List (Nat × Nat × Nat)):∀(os:List Oper) (k i:Nat),(zAi L k os)[i]? =(os[i]?).map (zAU L (k+i))
 | [],k,i=>by simp[zAi]
 |o::os,k,0=>by simp[zAi]
 |o::os,k,i+1=>by
  simp only[zAi,List.getElem?_cons_succ];rw[zK4 L os (k+1) i]
  congr 2;omega
theorem zK5(L:List (Nat × Nat × Nat)):∀(os:List Oper) (k:Nat),(zAi L k os).length=os.length
 | [],k=>rfl
 |o::os,k=>by simp[zAi,zK5 L os (k+1)]
def virt(L:List (Nat × Nat × Nat))(ops:Array Oper):Array Oper:=(zAi L 0 ops.toList).toArray
theorem zV(L:List (Nat × Nat × Nat))(ops:Array Oper)(i:Nat):(virt L ops)[i]? =(ops[i]?).map (zAU L i):=by
 unfold virt;rw[List.getElem?_toArray,zK4,Nat.zero_add,Array.getElem?_toList]
def zTZ(P:Program)(ops:Array Oper)(p:Nat × Nat × Nat):Bool:=
 match ops[p.1]?,ops[p.2.1]? with
 |some x,some y=>
  (match x.op,y.op with
  | .alloc t,.store t' (.tmp d) v=>t'==t&&d==p.2.2&&(match v with| .tmp d'=>d' !=p.2.2|_=>true)&&(match zAv P t with|some zs=>zs.length==P.cellsOf t&&P.cellsOf t !=0|none=>false)
  |_,_=>false)&&(x.dst==some p.2.2&&x.guard.isNone&&y.guard.isNone&&y.dst.isNone&&y.after.toList.any (fun e=>Region.binds .any e&&e.on==p.1))
 |_,_=>false
def zK6(P:Program)(ops:Array Oper)(L:List (Nat × Nat × Nat)):Bool:=
 (L.all (zTZ P ops))&&
 (ops.toList.zipIdx.all fun q=>L.all fun p=>(q.2==p.1||q.2==p.2.1||q.1.dst !=some p.2.2)&&(match q.1.guard with|some g=>g.1 !=p.1&&g.1 !=p.2.1|none=>true))&&
 (L.all fun p=>L.all fun q=>(p==q||(p.1 !=q.1&&p.2.1 !=q.2.1&&p.2.2 !=q.2.2))&&p.1 !=q.2.1)
section
variable{P:Program}{ops:Array Oper}{L:List (Nat × Nat × Nat)}
theorem zI9{p:Nat × Nat × Nat}(h:zTZ P ops p=true):∃x y t v zs,ops[p.1]? =some x/\ops[p.2.1]? =some y/\x.op= .alloc t/\y.op= .store t (.tmp p.2.2) v/\v≠ .tmp p.2.2/\zAv P t=some zs/\zs.length=P.cellsOf t/\P.cellsOf t≠0/\
  x.dst=some p.2.2/\x.guard=none/\y.guard=none/\y.dst=none/\∃e∈y.after,Region.binds .any e=true/\e.on=p.1:=by
 unfold zTZ at h;split at h
 case h_2=>cases h
 rename_i x y hx hy
 simp only[Bool.and_eq_true,beq_iff_eq,Option.isNone_iff_eq_none,List.any_eq_true]at h
 obtain⟨h1,⟨⟨⟨h2,h3⟩,h4⟩,h5⟩,e,h6,h7,h8⟩:=h
 split at h1
 case h_2=>cases h1
 rename_i t t' d v nc Vl
 simp only[Bool.and_eq_true,beq_iff_eq]at h1
 obtain⟨⟨⟨rfl,rfl⟩,h9⟩,h10⟩:=h1
 split at h10
 case h_2=>cases h10
 rename_i zs hz
 simp only[Bool.and_eq_true,beq_iff_eq,bne_iff_ne,ne_eq]at h10;refine⟨x,y,t',v,zs,hx,hy,nc,Vl,fun hv=>?_,hz,h10.1,h10.2,h2,h3,h4,h5,e,by simpa using h6,h7,h8⟩
 subst hv;simp at h9
theorem zHl(h:zK6 P ops L=true):(∀p∈L,zTZ P ops p=true)/\(∀p∈L,∀(k:Nat) (o:Oper),ops[k]? =some o->k≠p.1->k≠p.2.1->o.dst≠some p.2.2)/\(∀p∈L,∀(k:Nat) (o:Oper) (g:Nat) (b:Bool),ops[k]? =some o->o.guard=some (g,b)->g≠p.1/\g≠p.2.1)/\
  (∀p∈L,∀q∈L,p≠q->p.1≠q.1/\p.2.1≠q.2.1/\p.2.2≠q.2.2)/\∀p∈L,∀q∈L,p.1≠q.2.1:=by
 unfold zK6 at h;simp only[Bool.and_eq_true,List.all_eq_true,Bool.or_eq_true,beq_iff_eq,bne_iff_ne,ne_eq]at h
 obtain⟨⟨h1,h2⟩,h3⟩:=h
 have mc:∀(k:Nat) (o:Oper),ops[k]? =some o->(o,k)∈ops.toList.zipIdx:=fun k o ho=>List.mem_zipIdx_iff_getElem?.2 (by simpa using ho)
 refine⟨h1,fun p hp k o ho ha hb=>?_,fun p hp k o g b ho hg=>?_,fun p hp q hq hne=>?_,fun p hp q hq=>(h3 p hp q hq).2⟩
 .rcases(h2 _ (mc k o ho) p hp).1 with(h|h)|h
  .exact absurd h ha
  .exact absurd h hb
  exact h
 .have:=(h2 _ (mc k o ho) p hp).2
  simp only[hg,Bool.and_eq_true,bne_iff_ne,ne_eq]at this;exact this
 rcases(h3 p hp q hq).1 with h|h
 .exact absurd h hne
 exact⟨h.1.1,h.1.2,h.2⟩
theorem zQp{p:Nat × Nat × Nat}(hp:p∈L)(o:Oper):zAU L p.1 o={o with op:=.move (.global 0)}:=by
 unfold zAU
 cases h:L.find? (fun q=>q.1==p.1)with
 |some q=>rfl
 |none=>rw[List.find?_eq_none]at h;exact absurd (by simp) (h p hp)
theorem zQq(na:zK6 P ops L=true){p:Nat × Nat × Nat}(hp:p∈L){o:Oper}{t:TypeId}{x v:Operand}(ho:o.op= .store t x v):zAU L p.2.1 o={o with dst:=some p.2.2,op:=.box t v}:=by
 obtain⟨_,_,_,h4,h5⟩:=zHl na
 unfold zAU
 cases h:L.find? (fun q=>q.1==p.2.1)with
 |some q=>
  have h6:=List.find?_some h
  exact absurd (by simpa using h6) (h5 q (List.mem_of_find?_eq_some h) p hp)
 |none=>
  cases h':L.find? (fun q=>q.2.1==p.2.1)with
  |none=>rw[List.find?_eq_none]at h';exact absurd (by simp) (h' p hp)
  |some q=>
   have h6:=List.find?_some h'
   have:q=p:=Classical.byContradiction fun hne=>(h4 q (List.mem_of_find?_eq_some h') p hp hne).2.1 (by simpa using h6)
   subst this;simp only[ho]
theorem zHm{k:Nat}(h:∀p∈L,p.1≠k/\p.2.1≠k)(o:Oper):zAU L k o=o:=by
 unfold zAU;rw[List.find?_eq_none.2 fun p hp=>by simpa using(h p hp).1,List.find?_eq_none.2 fun p hp=>by simpa using(h p hp).2]
theorem zMK(k:Nat)(o:Oper):(zAU L k o).after=o.after:=by
 unfold zAU;split
 .rfl
 split<;>rfl
end
def zML(P:Program)(ops:Array Oper)(n0:Nat)(p:Nat × Nat × Nat)(Pr:Prot)(φ:Fi2)(a:Act)(w:World)(g:Nat):Prop:=
 ∃x t xs,ops[p.1]? =some x/\x.op= .alloc t/\a.tmps[p.2.2]? =some (.pointer (some ⟨g,0,none⟩))/\w.heap[g]? =some (.cells xs t (0,0))/\xs.size=P.cellsOf t/\n0<=g/\(∀d i e,get2 φ d i=some e->e.blk≠some g)/\∀o,Pr g o=none
theorem zMM{w:World}{g:Nat}{b:Obj}(h:w.heap[g]? =some b):g<w.heap.size:=(Array.getElem?_eq_some_iff.1 h).1
theorem zML.stp{P:Program}{ops:Array Oper}{n0:Nat}{p:Nat × Nat × Nat}{Pr Pr':Prot}{φ φ':Fi2}{a a':Act}{w w':World}{g:Nat}(h:zML P ops n0 p Pr φ a w g)(s:Stp Pr φ w Pr' φ' w')(ht:a'.tmps[p.2.2]? =a.tmps[p.2.2]?):zML P ops n0 p Pr' φ' a' w' g:=by
 obtain⟨x,t,xs,h1,h2,h3,h4,h5,h6,h7,h8⟩:=h
 have hlt:=zMM h4
 refine⟨x,t,xs,h1,h2,by rw[ht];exact h3,by rw[s.fr.block g hlt h7];exact h4,h5,h6,fun d i e he hb=>?_,fun o=>?_⟩
 .rcases s.fresh d i e g he hb with⟨d0,i0,e0,h9,h10⟩|h9
  .exact h7 d0 i0 e0 h9 h10
  omega
 cases h9:Pr' g o with
 |none=>rfl
 |some v=>
  rcases s.pn g o (h8 o) (by rw[h9];simp)with⟨d,i,e,he,hb⟩|h10
  .exact absurd hb (h7 d i e he)
  omega
theorem zQr{Pr:Prot}{φ:Fi2}{S:ASt}{w:World}(h:Rel Pr φ S w)(xs:Array Value)(t:TypeId):Stp Pr φ w Pr φ (w.alloc (.cells xs t (0,0)))/\Rel Pr φ S (w.alloc (.cells xs t (0,0))):=by
 refine⟨⟨Prot.le_refl Pr,Fle.refl φ,fun d i e g he hg=>.inl ⟨d,i,e,he,hg⟩,⟨rfl,rfl,rfl,by simp,fun g hg _=>Below.heap_alloc _ _ _ hg⟩,rfl,fun g o h k=>absurd h k⟩,⟨fun d i o ho=>?_,h.dis,fun d i e g h1 h2=>?_,fun b o v hv=>?_,h.tb.of (Prot.le_refl _) (fun g hg _=>Below.heap_alloc _ _ _ hg) (fun d i e g he hg=>.inl ⟨d,i,e,he,hg⟩),h.shape⟩⟩
 .obtain⟨e,he,hr⟩:=h.obj d i o ho
  exact⟨e,he,hr.keep (Prot.le_refl Pr) (Fle.refl _) fun g hg=>⟨Below.heap_alloc _ _ _ (h.lt d i e g he hg),fun _ h=>h⟩⟩
 .have:=h.lt d i e g h1 h2;simp;omega
 have:=h.pr b o v hv
 rw[World.cell?_alloc_lt _ _ _ (zBh this)];exact this
theorem zQs{Pr:Prot}{φ:Fi2}{S:ASt}{w:World}(h:Rel Pr φ S w)(hne:φ≠ []){g:Nat}{xs:Array Value}{t:TypeId}(hg:w.heap[g]? =some (.cells xs t (0,0)))(hn:∀d i e,get2 φ d i=some e->e.blk≠some g)(hp:∀o,Pr g o=none):
  Rel Pr (add2 ⟨false,some g,0,0,0⟩ φ) (add2 (.cells (List.replicate xs.size .any) t) S) w/\RA Pr (add2 ⟨false,some g,0,0,0⟩ φ) (.ptr 0 (top S) 0) (.pointer (some ⟨g,0,none⟩)):=by
 have ht:top φ=top S:=zBu h.shape
 have Nb:get2 (add2 ⟨false,some g,0,0,0⟩ φ) 0 (top S)=some ⟨false,some g,0,0,0⟩:=by rw[<-ht];exact zAV _ _
 refine⟨⟨fun d i o ho=>?_,fun d i e d' i' e' g' h1 h2 h3 h4=>?_,fun d i e g' h1 h2=>?_,h.pr,fun gt cs hm=>⟨(h.tb gt cs hm).1,(h.tb gt cs hm).2.1,(h.tb gt cs hm).2.2.1,fun d i e he=>by
  rw[zh]at he;split at he
  .cases he
   exact fun h'=>h.tb.ne hp gt cs hm (by cases h';rfl)
  exact(h.tb gt cs hm).2.2.2 d i e he⟩,zFQ h.shape _ _⟩,.ptr Nb rfl rfl⟩
 .rw[zh]at ho
  split at ho
  .rename_i hd
   obtain⟨rfl,rfl⟩:=hd
   cases ho;refine⟨_,Nb,rfl,g,xs,rfl,hg,by simp,fun j c x hc hx=>?_,hp⟩
   rw[List.getElem?_replicate]at hc;split at hc
   .cases hc;exact .any x
   cases hc
  obtain⟨e,he,hr⟩:=h.obj d i o ho
  exact⟨e,zBX _ he,hr.keep (Prot.le_refl Pr) ((zAI _ _).drop d) fun g hg=>⟨rfl,fun _ h=>h⟩⟩
 .rw[zh]at h1 h2
  split at h1
  .rename_i hd
   cases h1;cases h3;split at h2
   .rename_i Vf
    exact⟨hd.1.trans Vf.1.symm,hd.2.trans Vf.2.symm⟩
   exact absurd h4 (hn _ _ _ h2)
  split at h2
  .cases h2;cases h4
   exact absurd h3 (hn _ _ _ h1)
  exact h.dis d i e d' i' e' g' h1 h2 h3 h4
 rw[zh]at h1
 split at h1
 .cases h1;cases h2;exact zMM hg
 exact h.lt d i e g' h1 h2
theorem zbU:∀(v:AV),v.down 0=some v:=by
 have key:∀n,(∀v:AV,SizeOf.sizeOf v<n->v.down 0=some v)/\∀l:List AV,SizeOf.sizeOf l<n->AV.downs 0 l=some l:=by
  intro n
  induction n with
  |zero=>exact⟨fun v h=>by omega,fun l h=>by omega⟩
  |succ n ih=>
   refine⟨fun v h=>?_,fun l h=>?_⟩
   .cases v with
    |agg cs=>simp only[AV.down];rw[ih.2 cs (by simp at h;omega)];rfl
    |tup cs=>simp only[AV.down];rw[ih.2 cs (by simp at h;omega)];rfl
    |bx cs=>simp only[AV.down];rw[ih.2 cs (by simp at h;omega)];rfl
    |fn f a b=>simp only[AV.down];rw[ih.2 a (by simp at h;omega),ih.2 b (by simp at h;omega)];rfl
    |_=>simp[AV.down]
   cases l with
   |nil=>rfl
   |cons c cs=>simp only[AV.downs];rw[ih.1 c (by simp at h;omega),ih.2 cs (by simp at h;omega)];rfl
 exact fun v=>(key (SizeOf.sizeOf v+1)).1 v (by omega)
theorem zNc:∀(l:List AV),zCr 0 l=some l
 | []=>rfl
 |c::cs=>by simp only[zCr];rw[zbU,zNc cs]
theorem zK7:∀(vs cs:List AV) (off:Nat),off+vs.length=cs.length->zCL cs off vs=cs.take off++vs
 | [],cs,off,h=>by simp only[zCL,List.append_nil];rw[List.take_of_length_le (by simp at h;omega)]
 |v::vs,cs,off,h=>by
  simp only[List.length_cons]at h;rw[zCL,zK7 vs _ _ (by simp;omega)]
  rw[List.take_add_one,List.take_set_of_le (Nat.le_refl _),List.getElem?_set_self (by omega)]
  simp
theorem zTa{α:Type}(S:List (List α))(o o':α):set2 (add2 o S) 0 (top S) o'=add2 o' S:=by
 cases S with
 |nil=>simp[set2,add2,top]
 |cons L R=>simp[set2,add2,top]
section
variable{P:Program}{ops:Array Oper}{L:List (Nat × Nat × Nat)}{fr0:List AV}{V:Nat->AV}{Sx:Nat->ASt}{S0:ASt}
def zQt(P:Program)(ops:Array Oper)(L:List (Nat × Nat × Nat))(n0:Nat)(D:Nat->Bool)(Pr:Prot)(φ:Fi2)(a:Act)(w:World):Prop:=
 (∀p∈L,p.2.2<a.tmps.size)/\∃γ:Nat->Nat,(∀p∈L,D p.1=true->D p.2.1=false->zML P ops n0 p Pr φ a w (γ p.1))/\∀p∈L,∀q∈L,D p.1=true->D p.2.1=false->D q.1=true->D q.2.1=false->p≠q->γ p.1≠γ q.1
theorem zNd(a:Act)(dst:Option Nat)(x:Value):(a.put dst x).tmps.size=a.tmps.size:=by cases dst<;>simp[Act.put]
theorem zWq{a:Act}{d t:Nat}{x:Value}(h:d≠t):(a.put (some d) x).tmps[t]? =a.tmps[t]?:=by
 simp only[Act.put];rw[Array.getElem?_setIfInBounds_ne h]
theorem zNe{a:Act}{dst:Option Nat}{t:Nat}{x:Value}(h:dst≠some t):(a.put dst x).tmps[t]? =a.tmps[t]?:=by
 cases dst with
 |none=>rfl
 |some d=>exact zWq fun e=>h (by rw[e])
theorem zQu{Pr0 Pr:Prot}{φ0 φ:Fi2}{w0 w:World}(hs:Stp Pr0 φ0 w0 Pr φ w)(hne:φ≠ []){g:Nat}(hg:w0.heap.size<=g):Stp Pr0 φ0 w0 Pr (add2 ⟨false,some g,0,0,0⟩ φ) w:=by
 refine⟨hs.pl,hs.fl.trans (zAI _ _),fun d i e g' he hb=>?_,hs.fr,(zFR _ _ hne).trans hs.len,hs.pn⟩
 rw[zh]at he;split at he
 .cases he;cases hb;exact .inr hg
 exact hs.fresh d i e g' he hb
theorem zML.adopt{P:Program}{n0:Nat}{p:Nat × Nat × Nat}{Pr:Prot}{φ:Fi2}{a:Act}{w:World}{g g':Nat}(h:zML P ops n0 p Pr φ a w g)(hne:g≠g'):zML P ops n0 p Pr (add2 ⟨false,some g',0,0,0⟩ φ) a w g:=by
 obtain⟨x,t,xs,h1,h2,h3,h4,h5,h6,h7,h8⟩:=h
 refine⟨x,t,xs,h1,h2,h3,h4,h5,h6,fun d i e he hb=>?_,h8⟩
 rw[zh]at he;split at he
 .cases he;cases hb;exact hne rfl
 exact h7 d i e he hb
theorem Drawn.late(na:zK6 P ops L=true)(hl:∀p∈L,p.2.2<fr0.length)(hd:Drawn P (virt L ops) fr0 S0 V Sx){Q:Exit->List AV->ASt->Prop}(hQ:Q .normal (frD (virt L ops) V (fun _=>true) (List.range (virt L ops).size) fr0) (Sx (virt L ops).size)):zDw P ops fr0 S0 Q:=by
 intro Pr0 φ0 a0 w0 Pr φ a w hf hR hne hs Od
 obtain⟨k1,k2,k3,k4,k5⟩:=zHl na
 have Qe:ops.size=(virt L ops).size:=by simp[virt,zK5]
 have e0:∀j,(Array.replicate (virt L ops).size false).getD j false=false:=fun j=>by
  simp only[Array.getD_eq_getD_getElem?,Array.getElem?_replicate];split<;>rfl
 have e1:∀(l:List Nat) (fr:List AV),frD (virt L ops) V (fun j=>(Array.replicate (virt L ops).size false).getD j false) l fr=fr:=by
  intro l
  induction l with
  |nil=>intro fr;rfl
  |cons j l ih=>intro fr;rw[frD,e0,if_neg (by simp),ih]
 have Pq:zQt P ops L w0.heap.size (fun j=>(Array.replicate (virt L ops).size false).getD j false) Pr φ a w:=by
  refine⟨fun p hp=>by rw[<-hf.len];exact hl p hp,fun _=>0,fun p hp h1=>?_,fun p hp q hq h1=>?_⟩
  .have ye:(Array.replicate (virt L ops).size false).getD p.1 false=true:=h1
   rw[e0]at ye;cases ye
  have ye:(Array.replicate (virt L ops).size false).getD p.1 false=true:=h1
  rw[e0]at ye;cases ye
 rw[Qe]
 refine hd.anyX Qe (fun k o ho=>⟨zAU L k o,by rw[zV,ho];rfl,zMK _ _⟩) (X:=zQt P ops L w0.heap.size) hQ (Pr0:=Pr0) (φ0:=φ0) (a0:=a0) (w0:=w0) ?_ (virt L ops).size _ Pr φ a w (by simp) (fun _ _ _=>trivial) (Nat.le_trans (List.length_filter_le _ _) (by simp)) (fun i o ho hi=>by
  have Qd:(Array.replicate (virt L ops).size false).getD i false=true:=hi
  rw[e0]at Qd;cases Qd) (by rw[e1];exact hf) (by rw[hd.tail _ _ fun j _ _=>e0 j,hd.start];exact hR) hne hs Od Pq
 clear Pq hs hne hR hf Od e1 e0 a w Pr φ;intro D D' i oc o fr S S' v Pr φ a w cg ho hJ hi Oa Ec hf hR hne hs hX Ca K hK
 have ya:o=zAU L i oc:=by
  have:=zV L ops i
  rw[ho,cg]at this
  simpa using this
 obtain⟨cb,γ,hγ,bj⟩:=hX
 have Nc:∀q∈L,q.1≠i->D' q.1=true->D' q.2.1=false->D q.1=true/\D q.2.1=false:=fun q hq hne h1 h2=>by
  rw[Ec,if_neg hne]at h1;rw[Ec]at h2;split at h2
  .cases h2
  exact⟨h1,h2⟩
 unfold wpOp;rw[cg];simp only
 by_cases hA:∃p∈L,p.1=i
 .--a block is made
  obtain⟨p,hp,rfl⟩:=hA
  obtain⟨x,y,t,u,zs,hx,hy,qk,mo,hu,hz,Fj,tk,no,po,qo,ro,_⟩:=zI9 (k1 p hp)
  rw[cg]at hx;cases hx;rw[zQp hp]at ya;subst ya
  have hv:v= .any/\S'=S:=by
   rcases Ca with⟨hw,_,_⟩|⟨_,Ca⟩
   .simp[zBk,po]at hw
   cases Ca with
   |quiet h=>simp[evP,evA]at h;exact⟨h.symm,rfl⟩
   |load h=>simp[evL]at h
   |chain h=>simp[evC]at h
   |call h=>cases h
  obtain⟨rfl,rfl⟩:=hv
  have sg:Region.wanted oc (yielded ops a.tmps)=true:=by simp[Region.wanted,po]
  simp only[sg,if_true]
  left
  obtain⟨z,ig,Yf,Td⟩:=zEv hz
  have ta:(execOp a.eval oc).run P w= .ok (.value (.pointer (some ⟨w.heap.size,0,none⟩))) (w.alloc (.cells zs.toArray t (0,0))):=by simp[execOp,qk,Instr.alloc,ig,zEy,Yf]
  simp only[Oper.wp,ta,Oper.upon]
  obtain⟨s1,r1⟩:=zQr hR zs.toArray t
  have hlt:∀q∈L,D q.1=true->D q.2.1=false->γ q.1<w.heap.size:=fun q hq h1 h2=>by
   obtain⟨_,_,_,_,_,_,h,_⟩:=hγ q hq h1 h2
   exact zMM h
  refine hK _ _ Pr φ ((hf.put oc.dst (v:=.any) (.any _))) r1 hne (hs.trans s1) (zAT _ _ _) ⟨fun q hq=>by rw[zNd];exact cb q hq,fun k=>if k=p.1 then w.heap.size else γ k,fun q hq h1 h2=>?_,fun q hq r hr h1 h2 h3 h4 Ze=>?_⟩
  .by_cases qh:q=p
   .subst qh
    simp only[if_true];refine⟨oc,t,zs.toArray,cg,qk,?_,zDY _ _,by simpa using Fj,hs.fr.size,fun d i e he hb=>absurd (hR.lt d i e _ he hb) (Nat.lt_irrefl _),fun o=>?_⟩
    .rw[no]
     simp only[Act.put];rw[Array.getElem?_setIfInBounds_self_of_lt (cb q hq)]
    cases hv:Pr w.heap.size o with
    |none=>rfl
    |some v=>exact absurd (zIo hR hv) (Nat.lt_irrefl _)
   have Ee:=(k4 q hq p hp qh)
   simp only[if_neg Ee.1]
   obtain⟨h3,h4⟩:=Nc q hq Ee.1 h1 h2
   exact(hγ q hq h3 h4).stp s1 (zNe (by rw[no];intro e;exact Ee.2.2 (by simpa using e.symm)))
  by_cases qh:q=p
  .subst qh
   have vc:=(k4 r hr q hq (Ne.symm Ze)).1
   simp only[if_true,if_neg vc]
   obtain⟨h5,h6⟩:=Nc r hr vc h3 h4
   have:=hlt r hr h5 h6
   omega
  have Ee:=(k4 q hq p hp qh).1
  obtain⟨h5,h6⟩:=Nc q hq Ee h1 h2
  simp only[if_neg Ee]
  by_cases Wl:r=p
  .subst Wl
   simp only[if_true]
   have:=hlt q hq h5 h6
   omega
  have vc:=(k4 r hr p hp Wl).1
  obtain⟨h7,h8⟩:=Nc r hr vc h3 h4
  simp only[if_neg vc];exact bj q hq r hr h5 h6 h7 h8 Ze
 by_cases hB:∃p∈L,p.2.1=i
 .--a block is filled
  obtain⟨p,hp,rfl⟩:=hB
  obtain⟨x,y,t,u,zs,hx,hy,qk,mo,hu,hz,Fj,tk,no,po,qo,ro,e,Jf,ah,Ps⟩:=zI9 (k1 p hp)
  rw[cg]at hy;cases hy;rw[zQq na hp mo]at ya;subst ya
  have Qq:D p.1=true:=by rw[<-Ps];exact Oa e Jf ah
  have hw:=hγ p hp Qq hi
  obtain⟨x',t',xs,g1,g2,g3,g4,g5,g6,g7,g8⟩:=hw
  rw[hx]at g1;cases g1;rw[qk]at g2;cases g2
  obtain⟨r1,Qs⟩:=zQs hR hne g4 g7 g8
  have Xl:(execOp a.eval {oc with dst:=some p.2.2,op:=.box t u}).run P w= .ok (.value (.pointer (some ⟨w.heap.size,0,none⟩))) (w.alloc (.cells (a.eval u).cells t (0,0))):=by simp[execOp,Instr.box,zEy]
  have so:∃cs,zBc (evA fr u)=some cs/\cs.length=P.cellsOf t/\v= .ptr 0 (top S) 0/\S'=add2 (.cells cs t) S:=by
   rcases Ca with⟨hw,_,_⟩|⟨_,Ca⟩
   .simp[zBk,qo]at hw
   cases Ca with
   |quiet h=>
    obtain⟨x1,_,h2⟩:=zQS (P:=P) hf h
    have h3:=h2 w
    rw[Xl]at h3
    injection h3 with h3a h4
    have h5:=congrArg (fun w=>w.heap.size) h4
    simp at h5
   |load h=>simp[evL]at h
   |chain h=>
    simp only[evC]at h
    obtain⟨cs,hc,h⟩:=Option.bind_eq_some_iff.1 h
    split at h
    .rename_i kb
     cases h;exact⟨cs,hc,kb,rfl,rfl⟩
    cases h
   |call h=>cases h
  obtain⟨cs,hc,kb,rfl,rfl⟩:=so
  have sg:Region.wanted oc (yielded ops a.tmps)=true:=by simp[Region.wanted,qo]
  simp only[sg,if_true]
  left
  have Ee:add2 (⟨false,some (γ p.1),0,0,0⟩:Ent) φ≠ []:=by cases φ<;>simp[add2]
  have Vc:fr.length=a.tmps.size:=hf.len
  have pf:p.2.2<fr.length:=by rw[Vc];exact cb p hp
  have dg:RF Pr (add2 ⟨false,some (γ p.1),0,0,0⟩ φ) (fr.set p.2.2 (.ptr 0 (top S) 0)) a:=by
   refine⟨by simpa using Vc,fun t' c x' hc Ug=>?_⟩
   by_cases qn:t'=p.2.2
   .subst qn
    rw[List.getElem?_set_self pf]at hc;cases hc;rw[g3]at Ug;cases Ug;exact Qs
   rw[List.getElem?_set_ne (Ne.symm qn)]at hc
   exact(hf.at_ t' c x' hc Ug).mono (Prot.le_refl Pr) (zAI _ _)
  have sn:evA (fr.set p.2.2 (.ptr 0 (top S) 0)) u=evA fr u:=zK1 fun t' kl=>by
   rw[List.getElem?_set_ne fun e=>hu (by rw[kl,e])]
  have Rs:evC P oc (fr.set p.2.2 (.ptr 0 (top S) 0)) (add2 (.cells (List.replicate xs.size .any) t) S)=some (.un,add2 (.cells cs t) S,[(0,top S)]):=by
   simp only[evC,mo];rw[show evA (fr.set p.2.2 (.ptr 0 (top S) 0)) (.tmp p.2.2)= .ptr 0 (top S) 0 by simp[evA,pf],sn,hc]
   simp only;rw[zAV,zNc];simp only;rw[if_pos ⟨kb,tk,by simp[g5,kb]⟩,zTa,zK7 _ _ _ (by simp[g5,kb])]
   simp
  obtain⟨x1,w',Pr',φ',ta,s2,r2,_⟩:=zV0 (P:=P) dg r1 Ee Rs
  have Ma:=zQu hs hne g6
  have Ph:a.put oc.dst x1=a:=by rw[ro];rfl
  have Zl:a.put oc.dst undef=a:=by rw[ro];rfl
  have Rb:=hK a w' Pr' φ' (dg.mono s2.pl s2.fl) r2 (zL s2 Ee) (Ma.trans s2) rfl ⟨cb,γ,fun q hq h1 h2=>?_,fun q hq r hr h1 h2 h3 h4 Ze=>?_⟩
  .rcases ta with ta|⟨ta,_⟩
   .simp only[Oper.wp,ta,Oper.upon,Ph];exact Rb
   simp only[Oper.wp,ta,Oper.upon,Zl];exact Rb
  .have Ts:=k5 q hq p hp
   obtain⟨h3,h4⟩:=Nc q hq Ts h1 h2
   have qh:q≠p:=fun e=>by subst e;rw[Ec,if_pos rfl]at h2;cases h2
   exact((hγ q hq h3 h4).adopt (bj q hq p hp h3 h4 Qq hi qh)).stp s2 rfl
  obtain⟨h5,h6⟩:=Nc q hq (k5 q hq p hp) h1 h2
  obtain⟨h7,h8⟩:=Nc r hr (k5 r hr p hp) h3 h4
  exact bj q hq r hr h5 h6 h7 h8 Ze
 have bh:∀p∈L,p.1≠i/\p.2.1≠i:=fun p hp=>⟨fun e=>hA ⟨p,hp,e⟩,fun e=>hB ⟨p,hp,e⟩⟩
 rw[zHm bh]at ya
 have Vl:=ya.symm
 subst Vl
 have am:zBk (virt L ops) oc fr=zBk ops oc fr:=by
  unfold zBk
  cases hg:oc.guard with
  |none=>rfl
  |some gb=>
   obtain⟨g,b⟩:=gb
   simp only
   have e:(virt L ops)[g]? =ops[g]?:=by
    rw[zV]
    cases hog:ops[g]? with
    |none=>rfl
    |some og=>
     simp only[Option.map_some];rw[zHm fun p hp=>by have:=k3 p hp i oc g b cg hg;exact⟨Ne.symm this.1,Ne.symm this.2⟩]
   rw[e]
 rw[am]at Ca
 have Oc:∀q∈L,oc.dst≠some q.2.2:=fun q hq=>k2 q hq i oc cg (Ne.symm (bh q hq).1) (Ne.symm (bh q hq).2)
 have Rq:∀x w' Pr' φ',Stp Pr φ w Pr' φ' w'->zQt P ops L w0.heap.size D' Pr' φ' (a.put oc.dst x) w':=fun x w' Pr' φ' s=>by
  refine⟨fun q hq=>by rw[zNd];exact cb q hq,γ,fun q hq h1 h2=>?_,fun q hq r hr h1 h2 h3 h4 Ze=>?_⟩
  .obtain⟨h3,h4⟩:=Nc q hq (bh q hq).1 h1 h2
   exact(hγ q hq h3 h4).stp s (zNe (Oc q hq))
  obtain⟨h5,h6⟩:=Nc q hq (bh q hq).1 h1 h2
  obtain⟨h7,h8⟩:=Nc r hr (bh r hr).1 h3 h4
  exact bj q hq r hr h5 h6 h7 h8 Ze
 rcases Ca with⟨hw,rfl,rfl⟩|⟨hw,Ca⟩
 .simp only[zBP hf hw,Bool.false_eq_true,if_false]
  exact hK _ _ Pr φ (hf.put oc.dst .un) hR hne hs (zAT _ _ _) (Rq _ _ _ _ (Stp.refl _ _ _))
 simp only[zBP hf hw,if_true]
 left
 exact zAn hf hR hne Ca fun x w' Pr' φ' s1 s2 s3=>hK _ _ Pr' φ' ((hf.mono s1.pl s1.fl).put oc.dst s3) s2 (zL s1 hne) (hs.trans s1) (zAT _ _ _) (Rq _ _ _ _ s1)
theorem zEV{id:Nat}{fr:List AV}{S:ASt}{Q:Exit->List AV->ASt->Prop}(L:List (Nat × Nat × Nat))(jb:List (Nat × Nat))(na:zK6 P ops L=true)(Ca:zK2 (virt L ops)=true)(bf:zI8 (virt L ops)=jb)(hl:L.all (fun p=>decide (p.2.2<fr.length))=true)(h:awpD P (virt L ops) jb (Q .normal) (zAi L 0 ops.toList) 0 fr S [] [S] []):awp P (.region id ops true) fr S Q:=by
 obtain⟨V,Sx,hd,hK⟩:=zJv (ops:=virt L ops) jb Ca bf (by unfold virt;simpa [virt]using h)
 exact hd.late na (fun p hp=>by simpa using List.all_eq_true.1 hl p hp) hK
end
def zA2(rows:List Nat)(k:Nat)(o:Oper):Oper:=
 match o.op with
 | .buildSlice _ _ _=>if rows.contains k=true then {o with type:=4294967295}else o
 |_=>o
def zAr(rows:List Nat):Nat->List Oper->List Oper
 |_,[]=>[]
 |k,o::os=>zA2 rows k o::zAr rows (k+1) os
theorem zK8(rows:List Nat):∀(os:List Oper) (k i:Nat),(zAr rows k os)[i]? =(os[i]?).map (zA2 rows (k+i))
 | [],k,i=>by simp[zAr]
 |o::os,k,0=>by simp[zAr]
 |o::os,k,i+1=>by
  simp only[zAr,List.getElem?_cons_succ];rw[zK8 rows os (k+1) i]
  congr 2
  omega
def zZB(rows:List Nat)(ops:Array Oper):Array Oper:=(zAr rows 0 ops.toList).toArray
section
variable{P:Program}{ops:Array Oper}{rows:List Nat}
theorem zO(i:Nat):(zZB rows ops)[i]? =(ops[i]?).map (zA2 rows i):=by
 unfold zZB;rw[List.getElem?_toArray,zK8,Nat.zero_add,Array.getElem?_toList]
end
end Go.Proofs.YtdflkegnmmkkoaaGreatDoor
namespace Go.Proofs.YtdflkegnmmkkoaaGreatDoor
open Go.RowKit
def awpI(P:Program)(ops:Array Oper):List Nat->List AV->ASt->(List AV->ASt->Prop)->Prop
 | [],fr,S,K=>K fr S
 |i::is,fr,S,K=>
  match ops[i]? with
  |none=>False
  |some o=>
   match zBk ops o fr with
   |some true=>
    match zDu P o fr S with
    |some (v,S')=>awpI P ops is (putA fr o.dst v) S' K
    |none=>False
   |some false=>awpI P ops is (putA fr o.dst .un) S K
   |none=>False
theorem zY{P:Program}{ops:Array Oper}{fr:List AV}{S:ASt}{K:List AV->ASt->Prop}:awpI P ops [] fr S K=K fr S:=by rw[awpI]
theorem zP{P:Program}{ops:Array Oper}{fr:List AV}{S:ASt}{K:List AV->ASt->Prop}(i:Nat)(is:List Nat):awpI P ops (i::is) fr S K=(match ops[i]? with
  |none=>False
  |some o=>
   match zBk ops o fr with
   |some true=>
    match zDu P o fr S with
    |some (v,S')=>awpI P ops is (putA fr o.dst v) S' K
    |none=>False
   |some false=>awpI P ops is (putA fr o.dst .un) S K
   |none=>False):=by rw[awpI]<;>rfl
section
variable{P:Program}{ops:Array Oper}
end
end Go.Proofs.YtdflkegnmmkkoaaGreatDoor
namespace Go.Proofs.YtdflkegnmmkkoaaGreatDoor
open Go.RowKit
def ownO(rows own:List Nat)(k:Nat)(o:Oper):Oper:=
 match o.op with
 | .buildSlice _ _ _=>if own.contains k=true then {o with type:=4294967294}else if rows.contains k=true then {o with type:=4294967295}else o
 |_=>o
def ownL(rows own:List Nat):Nat->List Oper->List Oper
 |_,[]=>[]
 |k,o::os=>ownO rows own k o::ownL rows own (k+1) os
theorem zNf(rows own:List Nat):∀(os:List Oper) (k i:Nat),(ownL rows own k os)[i]? =(os[i]?).map (ownO rows own (k+i))
 | [],k,i=>by simp[ownL]
 |o::os,k,0=>by simp[ownL]
 |o::os,k,i+1=>by
  simp only[ownL,List.getElem?_cons_succ];rw[zNf rows own os (k+1) i]
  congr 2
  omega
def ownR(rows own:List Nat)(ops:Array Oper):Array Oper:=(ownL rows own 0 ops.toList).toArray
section
variable{P:Program}{ops:Array Oper}{rows own:List Nat}
theorem zbT(i:Nat):(ownR rows own ops)[i]? =(ops[i]?).map (ownO rows own i):=by
 unfold ownR;rw[List.getElem?_toArray,zNf,Nat.zero_add,Array.getElem?_toList]
end
end Go.Proofs.YtdflkegnmmkkoaaGreatDoor
namespace Go.Proofs.YtdflkegnmmkkoaaGreatDoor
open Go.RowKit
variable{w:World}
abbrev I(n:Int):AV:=.p (.v (.int .i64 n))
abbrev U(n:Int):AV:=.p (.v (.int .u8 n))
abbrev B(b:Bool):AV:=.p (.v (.bool b))
abbrev Sg(s:BA):AV:=.p (.v (.string s))
abbrev nilS:AV:=.p (.v (.slice none 0 0))
def av(l:List PV):AV:=.agg (l.map .p)
abbrev pS(s:BA):PV:=.v (.string s)
abbrev pU(n:Int):PV:=.v (.int .u8 n)
abbrev pI(n:Int):PV:=.v (.int .i64 n)
def strs(l:List BA):PV:=.sl 1 (l.map fun s=>[pS s])
mutual
def Ty.enc:Ty->List PV
 | .mk k s l=>[pU k,pS s,.sl 3 (Ty.encs l)]
def Ty.encs:List Ty->List (List PV)
 | []=>[]
 |t::l=>t.enc::Ty.encs l
end
theorem zV3(l:List Ty):Ty.encs l=l.map Ty.enc:=by
 induction l with
 |nil=>rfl
 |cons t l ih=>simp[Ty.encs,ih]
theorem ze(t:Ty):t.enc=[pU t.kind,pS t.name,.sl 3 (t.args.map Ty.enc)]:=by
 cases t;simp[Ty.enc,Ty.kind,Ty.name,Ty.args,zV3]
def Pl.enc(x:Pl):List PV:=[pS x.name,strs x.path]
mutual
def Ex.enc:Ex->List PV
 | .mk op i n s p l a=>[pU op,pI i,pS n,pS s,pS p.name,strs p.path,.sl 8 (Ex.encs l),pI a]
def Ex.encs:List Ex->List (List PV)
 | []=>[]
 |t::l=>t.enc::Ex.encs l
end
theorem zV4(l:List Ex):Ex.encs l=l.map Ex.enc:=by
 induction l with
 |nil=>rfl
 |cons t l ih=>simp[Ex.encs,ih]
theorem zg(e:Ex):e.enc=[pU e.op,pI e.int,pS e.name,pS e.u2,pS e.place.name,strs e.place.path,.sl 8 (e.args.map Ex.enc),pI e.pos]:=by
 cases e;simp[Ex.enc,Ex.op,Ex.int,Ex.name,Ex.u2,Ex.place,Ex.args,Ex.pos,zV4]
mutual
def St.enc:St->List PV
 | .mk op n s ns t i p es b e l a=>[pU op,pS n,pS s,strs ns,pU t.kind,pS t.name,.sl 3 (Ty.encs t.args),pI i,pS p.name,strs p.path,.sl 8 (Ex.encs es),.sl 15 (St.encs b),.sl 15 (St.encs e),.sl 3 (Ar.encs l),pI a]
def St.encs:List St->List (List PV)
 | []=>[]
 |t::l=>t.enc::St.encs l
def Ar.encs:List (ArOf St)->List (List PV)
 | []=>[]
 |⟨v,n,b⟩::l=>[pS v,pS n,.sl 15 (St.encs b)]::Ar.encs l
end
theorem zV5(l:List St):St.encs l=l.map St.enc:=by
 induction l with
 |nil=>rfl
 |cons t l ih=>simp[St.encs,ih]
def Ar.enc(a:Ar):List PV:=[pS a.variant,pS a.name,.sl 15 (a.body.map St.enc)]
theorem zZC(l:List Ar):Ar.encs l=l.map Ar.enc:=by
 induction l with
 |nil=>rfl
 |cons a l ih=>cases a;simp[Ar.encs,Ar.enc,ih,zV5]
theorem zCR(s:St):s.enc=[pU s.op,pS s.name,pS s.u2,strs s.names,pU s.type.kind,pS s.type.name,.sl 3 (s.type.args.map Ty.enc),pI s.int,pS s.place.name,strs s.place.path,.sl 8 (s.u3.map Ex.enc),.sl 15 (s.body.map St.enc),.sl 15 (s.els.map St.enc),.sl 3 (s.arms.map Ar.enc),pI s.pos]:=by
 cases s;simp[St.enc,St.op,St.name,St.u2,St.names,St.type,St.int,St.place,St.u3,St.body,St.els,St.arms,St.pos,zV3,zV4,zV5,zZC]
def Fi.enc(x:Fi):List PV:=[pS x.name,pU x.type.kind,pS x.type.name,.sl 3 (x.type.args.map Ty.enc)]
def It.enc(x:It):List PV:=[pU x.kind,pS x.name,.sl 4 (x.fields.map Fi.enc),pU x.result.kind,pS x.result.name,.sl 3 (x.result.args.map Ty.enc),.sl 15 (x.body.map St.enc),
 pU x.ret.op,pI x.ret.int,pS x.ret.name,pS x.ret.u2,pS x.ret.place.name,strs x.ret.place.path,.sl 8 (x.ret.args.map Ex.enc),pI x.ret.pos,pI x.pos]
def prog(p:List It):PV:=.sl 16 (p.map It.enc)
theorem zZD{l:List St}(h:PVok (.sl 15 (l.map St.enc))){s:St}(hs:s∈l):PVok (strs s.names)/\PVok (.sl 3 (s.type.args.map Ty.enc))/\PVok (strs s.place.path)/\PVok (.sl 8 (s.u3.map Ex.enc))/\PVok (.sl 15 (s.body.map St.enc))/\PVok (.sl 15 (s.els.map St.enc))/\PVok (.sl 3 (s.arms.map Ar.enc)):=by
 have h1:∀p∈s.enc,PVok p:=fun p hp=>h.sub (List.mem_map_of_mem hs) hp
 rw[zCR]at h1;exact⟨h1 _ (by simp),h1 _ (by simp),h1 _ (by simp),h1 _ (by simp),h1 _ (by simp),h1 _ (by simp),h1 _ (by simp)⟩
theorem zZE{p:List It}(h:PVok (prog p)){x:It}(hs:x∈p):PVok (.sl 4 (x.fields.map Fi.enc))/\PVok (.sl 3 (x.result.args.map Ty.enc))/\PVok (.sl 15 (x.body.map St.enc))/\PVok (strs x.ret.place.path)/\PVok (.sl 8 (x.ret.args.map Ex.enc)):=
 ⟨h.sub (List.mem_map_of_mem hs) (by simp[It.enc]),h.sub (List.mem_map_of_mem hs) (by simp[It.enc]),h.sub (List.mem_map_of_mem hs) (by simp[It.enc]),h.sub (List.mem_map_of_mem hs) (by simp[It.enc]),h.sub (List.mem_map_of_mem hs) (by simp[It.enc])⟩
theorem okl{α:Type}{k:Nat}{l:List α}{f:α->List PV}(h:PVok (.sl k (l.map f))):l.length<=maxLen:=by simpa using h.len
def zDh(w:World):Prot:=fun b o=>w.cell? ⟨b,o,none⟩
def RdP(w:World)(ps:List PV)(f:Nat->Value):Prop:=∀(j:Nat) (p:PV),ps[j]? =some p->RP (zDh w) p (f j)
theorem zHn{α:Type}{S:Nat->Prop}{size:Nat}{R:α->(Nat->Value)->Prop}{l:List α}{v:Value}{enc:α->List PV}(h:RdSl w S size R l v)(ca:∀x,(enc x).length=size)(hR:∀x∈l,∀f,R x f->RdP w (enc x) f):RP (zDh w) (.sl size (l.map enc)) v:=by
 obtain⟨A,cap,rfl,hl,hc,hn,Xb⟩:=h
 cases l with
 |nil=>exact .slemp size A cap hc
 |cons x0 l0=>
  obtain⟨b,off,hA,_⟩:=Xb 0 x0 rfl
  subst hA
  have:=RP.sl (Pr:=zDh w) (rows:=(x0::l0).map enc) (b:=b) (off:=off) (cap:=cap) (k:=size) (fun r j=>(w.cell? ⟨b,off+r*size+j,none⟩).getD undef) (by simpa using hl) hc (fun r row hr=>by
   rw[List.getElem?_map]at hr
   obtain⟨x,_,rfl⟩:=Option.map_eq_some_iff.1 hr
   exact ca x) (fun r row j p hr hp=>by
   rw[List.getElem?_map]at hr
   obtain⟨x,hx,rfl⟩:=Option.map_eq_some_iff.1 hr
   obtain⟨b',ck,he,_,f,hf,La⟩:=Xb r x hx
   cases he
   have hj:j<size:=by rw[<-ca x];exact(List.getElem?_eq_some_iff.1 hp).1
   have:=(La j hj).1
   show w.cell? _=_
   rw[this];rfl) (fun r row j p hr hp=>by
   rw[List.getElem?_map]at hr
   obtain⟨x,hx,rfl⟩:=Option.map_eq_some_iff.1 hr
   obtain⟨b',ck,he,_,f,hf,La⟩:=Xb r x hx
   cases he
   have hj:j<size:=by rw[<-ca x];exact(List.getElem?_eq_some_iff.1 hp).1
   have:=(La j hj).1
   rw[this];exact hR x (List.mem_of_getElem? hx) f hf j p hp)
  rwa [List.length_map]at this
theorem rp_v{x y:Value}(h:y=x)(ha:atom x=true):RP (zDh w) (.v x) y:=by subst h;exact .v ha
theorem zEW(w:World)(f:Nat->Value):RdP w [] f:=fun j p h=>by simp at h
theorem zS{p:PV}{ps:List PV}{f:Nat->Value}(h:RP (zDh w) p (f 0))(k:RdP w ps fun j=>f (j+1)):RdP w (p::ps) f:=fun j q hq=>by
 cases j with
 |zero=>simp at hq;subst hq;exact h
 |succ j=>exact k j q (by simpa using hq)
theorem zMN{S:Nat->Prop}{l:List BA}{v:Value}(h:RdSl w S 1 zOf l v):RP (zDh w) (strs l) v:=
 zHn h (fun _=>rfl) fun s _ f hf=>zS (rp_v hf.1 rfl) (zEW _ _)
theorem zWr{S:Nat->Prop}:∀(t:Ty) (f:Nat->Value),TyIn w S t f->RdP w t.enc f:=by
 refine Ty.ind fun t ih f h=>?_
 obtain⟨h0,_,_,h1,_,h2⟩:=TyIn.iff.1 h
 rw[ze];exact zS (rp_v h0 rfl) (zS (rp_v h1 rfl) (zS (zHn h2 (fun x=>by rw[ze];rfl) ih) (zEW _ _)))
theorem zZF{S:Nat->Prop}:∀(e:Ex) (f:Nat->Value),ExIn w S e f->RdP w e.enc f:=by
 refine Ex.ind fun t ih f h=>?_
 obtain⟨⟨h0,_,h1,_,h2,_,h3,_,⟨h4,_,h5⟩,h7,_⟩,h6⟩:=ExIn.iff.1 h
 rw[zg];exact zS (rp_v h0 rfl) (zS (rp_v h1 rfl) (zS (rp_v h2 rfl) (zS (rp_v h3 rfl) (zS (rp_v h4 rfl) (zS (zMN h5) (zS (zHn h6 (fun x=>by rw[zg];rfl) ih) (zS (rp_v h7 rfl) (zEW _ _))))))))
theorem zbV{S:Nat->Prop}:∀(s:St) (f:Nat->Value),StIn w S s f->RdP w s.enc f:=by
 refine St.ind fun t Ub Mb Md f h=>?_
 obtain⟨⟨h0,_,h1,_,h2,_,h3,h4,h7,_,⟨h8,_,h9⟩,h10,uf,_⟩,Oi,xd,Xe⟩:=StIn.iff.1 h
 have Sb:=zWr _ _ h4
 rw[ze]at Sb;rw[zCR]
 exact zS (rp_v h0 rfl) (zS (rp_v h1 rfl) (zS (rp_v h2 rfl) (zS (zMN h3) (zS (Sb 0 _ rfl) (zS (Sb 1 _ rfl) (zS (Sb 2 _ rfl) (zS (rp_v h7 rfl) (zS (rp_v h8 rfl) (zS (zMN h9)
  (zS (zHn h10 (fun x=>by rw[zg];rfl) fun x _=>zZF x) (zS (zHn Oi (fun x=>by rw[zCR];rfl) Ub) (zS (zHn xd (fun x=>by rw[zCR];rfl) Mb)
  (zS (zHn Xe (fun x=>rfl) fun a ha g hg=>zS (rp_v hg.1.1 rfl) (zS (rp_v hg.1.2.2.1 rfl) (zS (zHn hg.2 (fun x=>by rw[zCR];rfl) (Md a ha)) (zEW _ _)))) (zS (rp_v uf rfl) (zEW _ _)))))))))))))))
theorem zbW{S:Nat->Prop}(x:Fi)(f:Nat->Value)(h:FiIn w S x f):RdP w x.enc f:=by
 obtain⟨h0,_,h1⟩:=h
 have Sb:=zWr _ _ h1
 rw[ze]at Sb;exact zS (rp_v h0 rfl) (zS (Sb 0 _ rfl) (zS (Sb 1 _ rfl) (zS (Sb 2 _ rfl) (zEW _ _))))
theorem zbX{S:Nat->Prop}(x:It)(f:Nat->Value)(h:ItIn w S x f):RdP w x.enc f:=by
 obtain⟨h0,_,h1,_,h2,h3,h6,h7,ek,_⟩:=h
 have Sb:=zWr _ _ h3
 rw[ze]at Sb
 have ua:=zZF _ _ h7
 rw[zg]at ua
 exact zS (rp_v h0 rfl) (zS (rp_v h1 rfl) (zS (zHn h2 (fun _=>rfl) fun x _=>zbW x) (zS (Sb 0 _ rfl) (zS (Sb 1 _ rfl) (zS (Sb 2 _ rfl) (zS (zHn h6 (fun x=>by rw[zCR];rfl) fun x _=>zbV x)
  (zS (ua 0 _ rfl) (zS (ua 1 _ rfl) (zS (ua 2 _ rfl) (zS (ua 3 _ rfl) (zS (ua 4 _ rfl) (zS (ua 5 _ rfl) (zS (ua 6 _ rfl) (zS (ua 7 _ rfl) (zS (rp_v ek rfl) (zEW _ _))))))))))))))))
theorem zWs{S:Nat->Prop}{p:List It}{v:Value}(h:PrIn w S p v):RP (zDh w) (prog p) v:=zHn h (fun _=>rfl) fun x _=>zbX x
theorem zZG{φ:Fi2}{ps:List PV}{f:Nat->Value}{n:Nat}(hn:ps.length=n)(h:RdP w ps f):RA (zDh w) φ (av ps) (.agg ((List.range n).map f).toArray):=by
 refine .agg (by simp[hn]) fun j c x hc hx=>?_
 rw[List.getElem?_map]at hc
 obtain⟨p,hp,rfl⟩:=Option.map_eq_some_iff.1 hc
 have hj:j<n:=by rw[<-hn];exact(List.getElem?_eq_some_iff.1 hp).1
 rw[List.getElem?_toArray,zC6 _ hj]at hx;cases hx;exact .p (h j p hp)
attribute [simp] zY4 isR isL aslA zNW appR zK0 zOn zQh zTW zMG zQc zTR zMH zQd zTS zKz zOo zQi zTX zTQ zOm zWo zTT zQe zTU zQf
attribute [simp] zOl zQT updA entA entS zWd zDM zJn nilA maxA
attribute [simp] zWp zTV zQg zBk zCl zDu evP evC evL zTL zEP zWg strA evA orG putA valA atom AV.ups AV.up AV.down AV.downs zY8 zBc oneA top add2 zAy zFp
attribute [simp] zBT zAM zBS zu zNQ zNR zJm zHY lenA zKs natA binV unV zTJ zNT zGx zCL zCr appA zQW AV.toP toPs zDO
end Go.Proofs.YtdflkegnmmkkoaaGreatDoor
