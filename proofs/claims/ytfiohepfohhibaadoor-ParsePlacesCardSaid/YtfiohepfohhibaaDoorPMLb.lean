/- A part of the proof. The statement is proved in the claim's last text. -/
import Derived.Test.YtfiohepfohhibaaDoorPMLa
import Derived.IntWalk
set_option linter.unusedVariables false
set_option linter.unusedSimpArgs false
set_option maxRecDepth 100000
set_option maxHeartbeats 32000000
namespace Go.Proofs.YtfiohepfohhibaaDoor
open Go.RowKit
theorem get2_suc {α : Type} (L : List α) (R : List (List α)) (d i : Nat) : get2 (L :: R) (d + 1) i = get2 R d i:=rfl
theorem get2_zero {α : Type} (L : List α) (R : List (List α)) (i : Nat) : get2 (L :: R) 0 i = L[i]?:=rfl
theorem set2_suc {α : Type} (L : List α) (R : List (List α)) (d i : Nat) (o : α) : set2 (L :: R) (d + 1) i o = L :: set2 R d i o:=by simp [set2]
theorem set2_zero {α : Type} (L : List α) (R : List (List α)) (i : Nat) (o : α) : set2 (L :: R) 0 i o = L.set i o :: R:=by simp [set2]
theorem get2_set2 {α : Type} (S : List (List α)) (d i : Nat) (o : α) : get2 (set2 S d i o) d i = (get2 S d i).map fun _=>o:=by
 cases h : get2 S d i with
 | some x=>rw [get2_set _ h]; simp
 | none =>
  unfold get2 set2 at *
  rcases Nat.lt_or_ge d S.length with hd | hd
  ·rw [List.getElem?_set_self hd]
   rw [List.getElem?_eq_getElem hd] at h
   simp only [Option.bind_some] at h ⊢
   rw [List.getElem?_eq_none_iff] at h
   rw [List.getElem?_eq_none (by simp [List.getD,hd]; exact h)]
   rfl
  ·rw [List.getElem?_eq_none (by simpa using hd)]; rfl
theorem set2_set2 {α : Type} (S : List (List α)) (d i : Nat) (a b : α) : set2 (set2 S d i a) d i b = set2 S d i b:=by
 unfold set2
 rcases Nat.lt_or_ge d S.length with hd | hd
 ·simp [List.getD,hd]
 ·rw [List.set_eq_of_length_le (by simpa using hd),List.set_eq_of_length_le hd,List.set_eq_of_length_le hd]
theorem set2_same {α : Type} {S : List (List α)} {d i : Nat} {o : α} (h : get2 S d i = some o) : set2 S d i o = S:=by
 unfold get2 at h
 unfold set2
 obtain ⟨L,hL,hi⟩:=Option.bind_eq_some_iff.1 h
 have e : S.getD d [] = L:=by simp [List.getD,hL]
 have hil:=(List.getElem?_eq_some_iff.1 hi)
 rw [e,← hil.2,List.set_getElem_self]
 have hdl:=(List.getElem?_eq_some_iff.1 hL)
 rw [← hdl.2,List.set_getElem_self]
section
variable {P : Program} {fr : List AV} {S : ASt} {Q : Exit → List AV → ASt → Prop}
theorem awp_skip : awp P .skip fr S Q = Q .normal fr S:=by rw [awp]
theorem awp_region (id : Nat) (ops : Array Oper) : awp P (.region id ops false) fr S Q = awpF P ops ops.toList fr S (Q .normal):=by rw [awp,if_neg (by simp)]
def SeqQ (P : Program) (b : Code) (Q : Exit → List AV → ASt → Prop) (e : Exit) (fr : List AV) (S : ASt) : Prop:=match e with | .normal=>awp P b fr S Q | e=>Q e fr S
def BlkQ (id : Nat) (Q : Exit → List AV → ASt → Prop) (e : Exit) (fr : List AV) (S : ASt) : Prop:=match e with | .exit j=>if j = id then Q .normal fr S else Q (.exit j) fr S | e=>Q e fr S
theorem seqQ_normal (b : Code) : SeqQ P b Q .normal fr S = awp P b fr S Q:=rfl
theorem seqQ_exit (b : Code) (j : Nat) : SeqQ P b Q (.exit j) fr S = Q (.exit j) fr S:=rfl
theorem seqQ_ret (b : Code) : SeqQ P b Q .ret fr S = Q .ret fr S:=rfl
theorem blkQ_normal (i : Nat) : BlkQ i Q .normal fr S = Q .normal fr S:=rfl
theorem blkQ_exit (i j : Nat) : BlkQ i Q (.exit j) fr S = if j = i then Q .normal fr S else Q (.exit j) fr S:=rfl
theorem blkQ_ret (i : Nat) : BlkQ i Q .ret fr S = Q .ret fr S:=rfl
theorem awp_seq (a b : Code) : awp P (.seq a b) fr S Q = awp P a fr S (SeqQ P b Q):=by rw [awp] <;> congr 1
theorem awp_cond (c : Operand) (t e : Code) : awp P (.cond c t e) fr S Q = (match evA fr c with | .p (.v (.bool b))=>if b = true then awp P t fr S Q else awp P e fr S Q | .bl=>awp P t fr S Q ∧ awp P e fr S Q | _=>False):=by rw [awp] <;> rfl
theorem awp_block (id : Nat) (c : Code) : awp P (.block id c) fr S Q = awp P c fr S (BlkQ id Q):=by rw [awp] <;> congr 1
theorem awp_exit (id : Nat) : awp P (.exit id) fr S Q = Q (.exit id) fr S:=by rw [awp]
theorem awp_label (l : Nat) : awp P (.label l) fr S Q = Q .normal fr S:=by rw [awp]
theorem awp_ret : awp P .ret fr S Q = Q .ret fr S:=by rw [awp]
theorem awpF_nil {ops : Array Oper} {K : List AV → ASt → Prop} : awpF P ops [] fr S K = K fr S:=by rw [awpF]
@[reducible] def CallQ (P : Program) (F : Nat) (args : List AV) (S : ASt) (K : AV → ASt → Prop) : Prop:=∃ r S',ADet P F args S r S' ∧ K r S'
def NextQ (P : Program) (ops : Array Oper) (os : List Oper) (fr : List AV) (dst : Option Nat) (K : List AV → ASt → Prop) (r : AV) (S : ASt) : Prop:=awpF P ops os (putA fr dst r) S K
theorem nextQ_eq {ops : Array Oper} (os : List Oper) (dst : Option Nat) {K : List AV → ASt → Prop} (r : AV) : NextQ P ops os fr dst K r S = awpF P ops os (putA fr dst r) S K:=rfl
theorem awpF_cons {ops : Array Oper} {K : List AV → ASt → Prop} (o : Oper) (os : List Oper) : awpF P ops (o :: os) fr S K = (match wantA ops o fr with
  | some true =>
   match callA o fr with
   | some (F,args)=>CallQ P F args S (NextQ P ops os fr o.dst K)
   | none =>
    match stepF P o fr S with
    | some (v,S')=>awpF P ops os (putA fr o.dst v) S' K
    | none=>False
  | some false=>awpF P ops os (putA fr o.dst .un) S K
  | none=>False):=by rw [awpF] <;> rfl
end
section
variable {α : Type} {I : α → Prop} {F : α → List AV} {G : α → ASt} {μ : α → Nat} {m n : Nat} {Q : Exit → List AV → ASt → Prop} {fr' : List AV} {S' : ASt}
theorem loopQ_normal : LoopQ I F G μ m n Q .normal fr' S' = ∃ a',I a' ∧ μ a' < m ∧ wkR (AV.cuts n fr') (F a') ∧ wkT (trim n S') (G a'):=rfl
theorem loopN_normal {n : α → Nat} : LoopN I F G μ m n Q .normal fr' S' = ∃ a',I a' ∧ μ a' < m ∧ wkR (AV.cuts (n a') fr') (F a') ∧ wkT (trim (n a') S') (G a'):=rfl
theorem loopN_exit {n : α → Nat} (j : Nat) : LoopN I F G μ m n Q (.exit j) fr' S' = Q (.exit j) fr' S':=rfl
theorem loopN_ret {n : α → Nat} : LoopN I F G μ m n Q .ret fr' S' = Q .ret fr' S':=rfl
theorem loopQ_exit (j : Nat) : LoopQ I F G μ m n Q (.exit j) fr' S' = Q (.exit j) fr' S':=rfl
theorem loopQ_ret : LoopQ I F G μ m n Q .ret fr' S' = Q .ret fr' S':=rfl
theorem retOk_eq (P : Program) (rs : List ResultVar) (r : AV) (e : Exit) (fr : List AV) (S S1 : ASt) : RetOk P rs r S e fr S1 = ((e = .normal ∨ e = .ret) ∧ ∃ vs,resA P fr S1 rs = some vs ∧ (retA vs).down 1 = some r ∧ S1.tail = S):=by rw [RetOk]
end
theorem awp_loop {P : Program} {fr : List AV} {S : ASt} {Q : Exit → List AV → ASt → Prop} {body : Code} {α : Type} (I : α → Prop) (F : α → List AV) (G : α → ASt) (μ : α → Nat) (a0 : α) (h0 : I a0) (hF : wkR fr (F a0)) (hG : wkT S (G a0)) (h : ∀ a,I a → awp P body (F a) (G a) (LoopQ I F G μ (μ a) (top (G a0)) Q)) : awp P (.loop body) fr S Q:=⟨α,I,F,G,μ,a0,fun _=>top (G a0),h0,.wk hF hG,fun _ _=>Nat.le_refl _,h⟩
theorem awp_loopG {P : Program} {fr : List AV} {L : List AObj} {R : ASt} {Q : Exit → List AV → ASt → Prop} {body : Code} {α : Type} (E : TypeId) (k : Nat) (hk : 0 < k) (L' : List AObj) (I : α → Prop) (F : α → List AV) (G : α → ASt) (μ : α → Nat) (a0 : α) (h0 : I a0) (hfr : wkNR k L.length fr (F a0)) (hL : wkNL k L.length L L') (hG : G a0 = ((L' ++ [.tok E k 0]) :: R)) (h : ∀ a,I a → awp P body (F a) (G a) (LoopQ I F G μ (μ a) (top (G a0)) Q)) : awp P (.loop body) fr (L :: R) Q:=⟨α,I,F,G,μ,a0,fun _=>top (G a0),h0,by rw [hG]; exact Leads.ghost E k hk hfr hL,fun _ _=>Nat.le_refl _,h⟩
theorem awp_loopG2 {P : Program} {fr : List AV} {L : List AObj} {R : ASt} {Q : Exit → List AV → ASt → Prop} {body : Code} {α : Type} (E1 : TypeId) (k1 : Nat) (hk1 : 0 < k1) (fr1 : List AV) (L1 : List AObj) (E : TypeId) (k : Nat) (hk : 0 < k) (L' : List AObj) (I : α → Prop) (F : α → List AV) (G : α → ASt) (μ : α → Nat) (a0 : α) (h0 : I a0) (hfr1 : wkNR k1 L.length fr fr1) (hL1 : wkNL k1 L.length L L1) (hfr : wkNR k (L1.length + 1) fr1 (F a0)) (hL : wkNL k (L1.length + 1) (L1 ++ [.tok E1 k1 0]) L') (hG : G a0 = ((L' ++ [.tok E k 0]) :: R)) (h : ∀ a,I a → awp P body (F a) (G a) (LoopQ I F G μ (μ a) (top (G a0)) Q)) : awp P (.loop body) fr (L :: R) Q:=⟨α,I,F,G,μ,a0,fun _=>top (G a0),h0,by
  rw [hG]
  refine (Leads.ghost E1 k1 hk1 hfr1 hL1).trans ?_
  have:=Leads.ghost (R:=R) (L:=L1 ++ [AObj.tok E1 k1 0]) (L':=L') (fr:=fr1) (fr':=F a0) E k hk (by simpa using hfr) (by simpa using hL)
  exact this,fun _ _=>Nat.le_refl _,h⟩
theorem wrap_succ {q n : Nat} (h : q < n) (hn : n ≤ maxLen:=by assumption) : IntKind.i64.wrap ((q : Int) + 1) = ((q + 1 : Nat) : Int):=by
 unfold maxLen at hn
 rw [IntWalk.i64_in _ (by omega)]
 rfl
end Go.Proofs.YtfiohepfohhibaaDoor
namespace Go.Proofs.YtfiohepfohhibaaDoor
open Go.RowKit
def kindO (o : Oper) : Nat :=
 match o.op with
 | .load _ _=>1
 | .convert _ _ _=>1
 | .lookup _ _ _ _=>1
 | .store _ _ _=>2
 | .box _ _=>2
 | .alloc _=>2
 | .buildSlice _ _ _=>if o.type = 4294967295 then 1 else 2
 | .makeMap _ _=>2
 | .mapUpdate _ _ _ _=>2
 | .insert _ _ _ _=>2
 | .mapEntry _ _ _=>2
 | .entryStore _ _ _ _=>2
 | .call c =>
  match c.callee with
  | .builtin .append=>2
  | .builtin _=>0
  | _=>2
 | _=>0
theorem evA_congr {fr fr' : List AV} {x : Operand} (h : ∀ t,x = .tmp t → fr[t]? = fr'[t]?) : evA fr x = evA fr' x:=by
 cases x with
 | tmp t=>simp only [evA,List.getD,h t rfl]
 | _=>rfl
theorem allAtoms_congr {fr fr' : List AV} : ∀ {xs : List Operand},(∀ x ∈ xs,evA fr x = evA fr' x) → allAtoms fr xs = allAtoms fr' xs
 | [],_=>rfl
 | x :: xs,h=>by simp only [allAtoms,h x (by simp),allAtoms_congr fun y hy=>h y (List.mem_cons_of_mem _ hy)]
theorem genP_congr {P : Program} {o : Oper} {fr fr' : List AV} (h : ∀ x ∈ o.op.operands.toList,evA fr x = evA fr' x) : genP P o fr = genP P o fr':=by
 unfold genP
 rw [allAtoms_congr h]
 split
 ·rename_i hc
  simp only [Bool.and_eq_true] at hc
  rw [execOp_congr o (fun cs b hs=>by rw [hs] at hc; simp [noSel] at hc) (fun x hx=>by rw [h x (by simpa using hx)])]
 ·rfl
theorem map_congr_ev {fr fr' : List AV} {xs : List Operand} (h : ∀ x ∈ xs,evA fr x = evA fr' x) : xs.map (evA fr) = xs.map (evA fr'):=List.map_congr_left h
theorem evP_congr {P : Program} {o : Oper} {fr fr' : List AV} (h : ∀ x ∈ o.op.operands.toList,evA fr x = evA fr' x) : evP P o fr = evP P o fr':=by
 have hg:=genP_congr (P:=P) h
 obtain ⟨dst,op,type,pos,after,guard⟩:=o
 cases op with
 | move x=>simp only [evP]; rw [h x (by simp [Op.operands])]
 | assign x=>simp only [evP]; rw [h x (by simp [Op.operands])]
 | pick c a b=>simp only [evP]; rw [h c (by simp [Op.operands]),h a (by simp [Op.operands]),h b (by simp [Op.operands])]
 | nilCheck x=>simp only [evP]; rw [h x (by simp [Op.operands])]
 | fieldAddr s x f=>simp only [evP]; rw [h x (by simp [Op.operands])]
 | indexAddr t x ix=>simp only [evP]; rw [h x (by simp [Op.operands]),h ix (by simp [Op.operands])]
 | index t x ix=>simp only [evP]; rw [h x (by simp [Op.operands]),h ix (by simp [Op.operands]),hg]
 | extract t ix=>simp only [evP]; rw [h t (by simp [Op.operands])]
 | field T x f=>simp only [evP]; rw [h x (by simp [Op.operands])]
 | build T parts =>
  simp only [evP]
  rw [List.map_congr_left (g:=fun q=>(q.1,evA fr' q.2)) fun q hq=>by rw [h q.2 (by simp [Op.operands]; exact ⟨q.1,by simpa using hq⟩)]]
 | makeFunc fn first captured =>
  simp only [evP]
  rw [map_congr_ev fun x hx=>h x (by simp [Op.operands]; exact .inl (by simpa using hx)),map_congr_ev fun x hx=>h x (by simp [Op.operands]; exact .inr (by simpa using hx))]
 | slice t x lo hi mx =>
  have e1 : lo.map (evA fr) = lo.map (evA fr'):=by cases lo with | none=>rfl | some y=>simp only [Option.map_some]; rw [h y (by simp [Op.operands])]
  have e2 : hi.map (evA fr) = hi.map (evA fr'):=by cases hi with | none=>rfl | some y=>simp only [Option.map_some]; rw [h y (by simp [Op.operands])]
  cases mx with
  | none=>simp only [evP]; rw [h x (by simp [Op.operands]),e1,e2,hg]
  | some m =>
   cases lo with
   | some l0=>simp only [evP]; exact hg
   | none =>
    cases hi with
    | none=>simp only [evP]; exact hg
    | some y=>simp only [evP]; rw [h x (by simp [Op.operands]),h y (by simp [Op.operands]),h m (by simp [Op.operands]),hg]
 | binOp op T x y T'=>simp only [evP]; rw [h x (by simp [Op.operands]),h y (by simp [Op.operands]),hg]
 | unOp op T x=>simp only [evP]; rw [h x (by simp [Op.operands]),hg]
 | call c =>
  simp only [evP]
  rw [hg]
  have : lenA P c fr = lenA P c fr':=by
   obtain ⟨callee,args,argTypes⟩:=c
   unfold lenA
   split
   ·rename_i x t e1 e2 e3
    simp only at e2
    subst e2
    rw [h x (by simp [Op.operands,Call.operands])]
   ·rfl
  have h2 : maxA c fr = maxA c fr':=by
   obtain ⟨callee,args,argTypes⟩:=c
   unfold maxA
   split
   ·rename_i x y e1 e2
    simp only at e2
    subst e2
    rw [h x (by simp [Op.operands,Call.operands]),h y (by simp [Op.operands,Call.operands])]
   ·rfl
  rw [this,h2]
 | _=>simp only [evP]; exact hg
theorem evL_congr {P : Program} {o : Oper} {fr fr' : List AV} {S S' : ASt} {v : AV} {ref : Option (Nat × Nat)} (h : ∀ x ∈ o.op.operands.toList,evA fr x = evA fr' x) (hv : evL P o fr S = some (v,ref)) (hS : ∀ d i,ref = some (d,i) → get2 S' d i = get2 S d i) : evL P o fr' S' = some (v,ref):=by
 obtain ⟨dst,op,type,pos,after,guard⟩:=o
 unfold evL at hv ⊢
 cases op with
 | load t x =>
  simp only at hv ⊢
  rw [← h x (by simp [Op.operands])]
  split at hv
  ·rename_i d i off he
   split at hv
   ·rename_i cs T hc
    obtain ⟨v0,h1,h2⟩:=Option.map_eq_some_iff.1 hv
    cases h2
    have:=hS d i rfl
    simp only [this,hc,h1]; rfl
   ·cases hv
  ·rename_i d i n off he
   split at hv
   ·rename_i E k n' cs hc
    split at hv
    ·rename_i hnn
     obtain ⟨v0,h1,h2⟩:=Option.map_eq_some_iff.1 hv
     cases h2
     have:=hS d i rfl
     simp only [this,hc,h1,if_pos hnn]; rfl
    ·cases hv
   ·cases hv
  ·rename_i cs he
   obtain ⟨v0,h1,h2⟩:=Option.map_eq_some_iff.1 hv
   cases h2
   simp only [h1]; rfl
  ·rename_i cs he
   obtain ⟨v0,h1,h2⟩:=Option.map_eq_some_iff.1 hv
   cases h2
   simp only [h1]; rfl
  ·cases hv
 | convert t0 t1 x =>
  have he:=evP_congr (P:=P) h
  have hx:=h x (by simp [Op.operands])
  simp only at hv ⊢
  rw [← hx,← he]
  exact hv
 | lookup t m k ok =>
  simp only at hv ⊢
  rw [← h m (by simp [Op.operands]),← h k (by simp [Op.operands])]
  unfold lookA at hv ⊢
  split at hv
  ·rename_i kt et hT
   split at hv
   ·rename_i d i hme
    split at hv
    ·rename_i es hc
     have hSS : ref = some (d,i):=by
      split at hv
      ·cases hv; rfl
      ·obtain ⟨_,_,h2⟩:=Option.map_eq_some_iff.1 hv; cases h2; rfl
      ·cases hv
     simp only [hS d i hSS,hc]
     exact hv
    ·cases hv
   ·cases hv
  ·cases hv
 | buildSlice t len parts =>
  simp only at hv ⊢
  rw [List.map_congr_left (g:=fun q=>(q.1,evA fr' q.2)) fun q hq=>by rw [h q.2 (by simp [Op.operands]; exact ⟨q.1,by simpa using hq⟩)]] at hv
  exact hv
 | _=>simp at hv
theorem evC_congr {P : Program} {o : Oper} {fr fr' : List AV} {S : ASt} (h : ∀ x ∈ o.op.operands.toList,evA fr x = evA fr' x) : evC P o fr S = evC P o fr' S:=by
 obtain ⟨dst,op,type,pos,after,guard⟩:=o
 cases op with
 | box t x=>simp only [evC]; rw [h x (by simp [Op.operands])]
 | store t x y=>simp only [evC]; rw [h x (by simp [Op.operands]),h y (by simp [Op.operands])]
 | buildSlice t len parts =>
  simp only [evC]
  rw [List.map_congr_left (g:=fun q=>(q.1,evA fr' q.2)) fun q hq=>by rw [h q.2 (by simp [Op.operands]; exact ⟨q.1,by simpa using hq⟩)]]
 | mapEntry t m k=>simp only [evC]; rw [h m (by simp [Op.operands]),h k (by simp [Op.operands])]
 | entryStore t m k v=>simp only [evC]; rw [h m (by simp [Op.operands]),h k (by simp [Op.operands]),h v (by simp [Op.operands])]
 | mapUpdate t m k v=>simp only [evC]; rw [h m (by simp [Op.operands]),h k (by simp [Op.operands]),h v (by simp [Op.operands])]
 | insert t m k v=>simp only [evC]; rw [h m (by simp [Op.operands]),h k (by simp [Op.operands]),h v (by simp [Op.operands])]
 | makeMap t r=>cases r <;> rfl
 | call c =>
  obtain ⟨callee,args,argTypes⟩:=c
  simp only [evC]
  split
  ·rename_i s x t t'
   rw [h s (by simp [Op.operands,Call.operands]),h x (by simp [Op.operands,Call.operands])]
  ·rfl
 | _=>rfl
theorem callA_congr {o : Oper} {fr fr' : List AV} (h : ∀ x ∈ o.op.operands.toList,evA fr x = evA fr' x) : callA o fr = callA o fr':=by
 obtain ⟨dst,op,type,pos,after,guard⟩:=o
 cases op with
 | call c =>
  obtain ⟨callee,args,argTypes⟩:=c
  cases callee with
  | value f =>
   simp only [callA]
   rw [h f (by simp [Op.operands,Call.operands]),map_congr_ev fun x hx=>h x (by simp [Op.operands,Call.operands]; exact .inr (by simpa using hx))]
  | _=>rfl
 | _=>rfl
theorem wantA_congr {ops : Array Oper} {o : Oper} {fr fr' : List AV} (h : ∀ t ∈ o.looksAt ops,fr[t]? = fr'[t]?) : wantA ops o fr = wantA ops o fr':=by
 unfold wantA
 split
 ·rfl
 ·rename_i j want hg
  split
  ·rename_i t ht
   rw [h t (by simp only [Oper.looksAt,hg,ht]; simp)]
  ·rfl
theorem looks_ev {ops : Array Oper} {o : Oper} {fr fr' : List AV} (h : ∀ t ∈ o.looksAt ops,fr[t]? = fr'[t]?) : ∀ x ∈ o.op.operands.toList,evA fr x = evA fr' x:=fun x hx=>evA_congr fun t ht=>h t (by
 subst ht
 simp only [Oper.looksAt]
 exact List.mem_append_left _ (List.mem_filterMap.2 ⟨_,hx,rfl⟩))
inductive Anc (ops : Array Oper) : Nat → Nat → Prop
 | step {i : Nat} {o : Oper} {e : Edge} : ops[i]? = some o → e ∈ o.after → Region.binds .any e = true → Anc ops i e.on
 | trans {i : Nat} {o : Oper} {e : Edge} {k : Nat} : ops[i]? = some o → e ∈ o.after → Region.binds .any e = true → Anc ops e.on k → Anc ops i k
def maskOf (acc : List Nat) (es : List Edge) (s : Nat) : Nat :=
 match es with
 | []=>s
 | e :: es=>maskOf acc es (if Region.binds .any e = true then s ||| 2 ^ e.on ||| acc.getD e.on 0 else s)
def masks : List Oper → List Nat → List Nat
 | [],acc=>acc
 | o :: os,acc=>masks os (acc ++ [maskOf acc o.after.toList 0])
theorem maskOf_spec (acc : List Nat) : ∀ (es : List Edge) (s k : Nat),(maskOf acc es s).testBit k = true → s.testBit k = true ∨ ∃ e ∈ es,Region.binds .any e = true ∧ (e.on = k ∨ (acc.getD e.on 0).testBit k = true)
 | [],s,k,h=>.inl h
 | e :: es,s,k,h=>by
  rcases maskOf_spec acc es _ k h with h1 | ⟨e',h2,h3⟩
  ·split at h1
   ·rename_i hb
    rw [Nat.testBit_or,Nat.testBit_or,Bool.or_eq_true,Bool.or_eq_true] at h1
    rcases h1 with (h1 | h1) | h1
    ·exact .inl h1
    ·rw [Nat.testBit_two_pow] at h1
     exact .inr ⟨e,by simp,hb,.inl (by simpa using h1)⟩
    ·exact .inr ⟨e,by simp,hb,.inr h1⟩
   ·exact .inl h1
  ·exact .inr ⟨e',List.mem_cons_of_mem _ h2,h3⟩
theorem masks_spec (ops : Array Oper) : ∀ (os : List Oper) (acc : List Nat),ops.toList.drop acc.length = os → (∀ i k,(acc.getD i 0).testBit k = true → Anc ops i k) → ∀ i k,((masks os acc).getD i 0).testBit k = true → Anc ops i k
 | [],acc,_,h=>h
 | o :: os,acc,hd,h=>by
  have ho : ops[acc.length]? = some o:=by
   have : (ops.toList.drop acc.length)[0]? = some o:=by rw [hd]; rfl
   rw [List.getElem?_drop] at this
   simpa using this
  refine masks_spec ops os _ (by rw [List.length_append,List.length_singleton,← List.drop_drop,hd]; rfl) fun i k hk=>?_
  rcases Nat.lt_trichotomy i acc.length with hi | hi | hi
  ·rw [List.getD,List.getElem?_append_left hi] at hk
   exact h i k hk
  ·subst hi
   rw [List.getD,List.getElem?_append_right (Nat.le_refl _),Nat.sub_self] at hk
   simp only [List.getElem?_cons_zero,Option.getD_some] at hk
   rcases maskOf_spec acc _ 0 k hk with h1 | ⟨e,he,hb,h2⟩
   ·simp at h1
   ·have he' : e ∈ o.after:=by simpa using he
    rcases h2 with rfl | h2
    ·exact .step ho he' hb
    ·exact .trans ho he' hb (h _ _ h2)
  ·rw [List.getD,List.getElem?_eq_none (by simp; omega)] at hk
   simp at hk
def ordB (ops : Array Oper) (j i : Nat) : Bool:=((masks ops.toList []).getD i 0).testBit j
theorem ordB_anc {ops : Array Oper} {j i : Nat} (h : ordB ops j i = true) : Anc ops i j:=masks_spec ops _ [] rfl (fun i k h=>by simp at h) i j h
def statD (ops : Array Oper) : Bool :=
 let M:=masks ops.toList []
 (ops.toList.zipIdx.all fun (o,i)=>o.after.toList.all (fun e=>!Region.binds .any e || decide (e.on < i)) && (M.getD i 0 == M.getD i 0) &&
  ((ops.toList.take i).zipIdx.all fun (x,j)=>(x.apart ops o && !(kindO x == 2 && kindO o == 2)) || (M.getD i 0).testBit j))
theorem statD_spec {ops : Array Oper} (h : statD ops = true) : (∀ i o,ops[i]? = some o → ∀ e ∈ o.after,Region.binds .any e = true → e.on < i) ∧
  ∀ i j o x,j < i → ops[i]? = some o → ops[j]? = some x → (x.apart ops o = false ∨ (kindO x = 2 ∧ kindO o = 2)) → Anc ops i j:=by
 unfold statD at h
 simp only [List.all_eq_true] at h
 have hget : ∀ i o,ops[i]? = some o → (o,i) ∈ ops.toList.zipIdx:=fun i o ho=>List.mem_zipIdx_iff_getElem?.2 (by simpa using ho)
 refine ⟨fun i o ho e he hb=>?_,fun i j o x hji ho hx hc=>?_⟩
 ·have:=h _ (hget i o ho)
  simp only [Bool.and_eq_true,List.all_eq_true] at this
  have:=this.1.1 e (by simpa using he)
  simpa [hb] using this
 ·have:=h _ (hget i o ho)
  simp only [Bool.and_eq_true,List.all_eq_true] at this
  have hm : (x,j) ∈ (ops.toList.take i).zipIdx:=List.mem_zipIdx_iff_getElem?.2 (by rw [List.getElem?_take_of_lt hji]; simpa using hx)
  have h2:=this.2 _ hm
  simp only [Bool.or_eq_true,Bool.and_eq_true] at h2
  rcases h2 with ⟨h3,h4⟩ | h2
  ·rcases hc with hc | ⟨hc1,hc2⟩
   ·rw [hc] at h3; cases h3
   ·simp [hc1,hc2] at h4
  ·exact ordB_anc h2
end Go.Proofs.YtfiohepfohhibaaDoor
namespace Go.Proofs.YtfiohepfohhibaaDoor
open Go.RowKit
section
variable {P : Program} {ops : Array Oper} {fr0 : List AV} {V : Nat → AV} {Sx : Nat → ASt}
def dstO (ops : Array Oper) (j : Nat) : Option Nat:=(ops[j]?).bind (·.dst)
def chO (ops : Array Oper) (j : Nat) : Bool:=((ops[j]?).map kindO) == some 2
def frD (ops : Array Oper) (V : Nat → AV) (D : Nat → Bool) : List Nat → List AV → List AV
 | [],fr=>fr
 | j :: l,fr=>frD ops V D l (if D j = true then putA fr (dstO ops j) (V j) else fr)
def Sc (ops : Array Oper) (Sx : Nat → ASt) (D : Nat → Bool) : List Nat → ASt → ASt
 | [],S=>S
 | j :: l,S=>Sc ops Sx D l (if (D j && chO ops j) = true then Sx (j + 1) else S)
theorem putA_len (fr : List AV) (d : Option Nat) (v : AV) : (putA fr d v).length = fr.length:=by cases d <;> simp [putA]
theorem putA_get {fr fr' : List AV} {t : Nat} (d : Option Nat) (v : AV) (hl : fr.length = fr'.length) (h : fr[t]? = fr'[t]?) : (putA fr d v)[t]? = (putA fr' d v)[t]?:=by
 cases d with
 | none=>exact h
 | some d =>
  simp only [putA]
  by_cases hd : t = d
  ·subst hd
   rcases Nat.lt_or_ge t fr.length with ht | ht
   ·rw [List.getElem?_set_self ht,List.getElem?_set_self (by omega)]
   ·rw [List.getElem?_eq_none (by simpa using ht),List.getElem?_eq_none (by simp; omega)]
  ·rw [List.getElem?_set_ne (by omega),List.getElem?_set_ne (by omega)]; exact h
theorem putA_ne {fr : List AV} {t : Nat} {d : Option Nat} (v : AV) (h : d ≠ some t) : (putA fr d v)[t]? = fr[t]?:=by
 cases d with
 | none=>rfl
 | some d=>simp only [putA]; rw [List.getElem?_set_ne (fun e=>h (by rw [e]))]
theorem frD_len (D : Nat → Bool) : ∀ (l : List Nat) (fr : List AV),(frD ops V D l fr).length = fr.length
 | [],fr=>rfl
 | j :: l,fr=>by
  rw [frD,frD_len D l]
  split
  ·exact putA_len _ _ _
  ·rfl
theorem frD_agree {t : Nat} {D D' : Nat → Bool} : ∀ (l : List Nat) (fr fr' : List AV),fr.length = fr'.length → fr[t]? = fr'[t]? → (∀ j ∈ l,dstO ops j = some t → D j = D' j) → (frD ops V D l fr)[t]? = (frD ops V D' l fr')[t]?
 | [],fr,fr',_,h,_=>h
 | j :: l,fr,fr',hl,h,hD=>by
  rw [frD,frD]
  refine frD_agree l _ _ ?_ ?_ fun i hi=>hD i (List.mem_cons_of_mem _ hi)
  ·split <;> split <;> simp [putA_len,hl]
  ·by_cases hd : dstO ops j = some t
   ·rw [hD j (by simp) hd]
    split
    ·exact putA_get _ _ hl h
    ·exact h
   ·split <;> split <;> simp [putA_ne _ hd,h]
theorem frD_append (D : Nat → Bool) : ∀ (l l' : List Nat) (fr : List AV),frD ops V D (l ++ l') fr = frD ops V D l' (frD ops V D l fr)
 | [],l',fr=>rfl
 | j :: l,l',fr=>by rw [List.cons_append,frD,frD,frD_append D l l']
theorem Sc_append (D : Nat → Bool) : ∀ (l l' : List Nat) (S : ASt),Sc ops Sx D (l ++ l') S = Sc ops Sx D l' (Sc ops Sx D l S)
 | [],l',S=>rfl
 | j :: l,l',S=>by rw [List.cons_append,Sc,Sc,Sc_append D l l']
theorem Sc_congr {D D' : Nat → Bool} : ∀ (l : List Nat) (S : ASt),(∀ j ∈ l,chO ops j = true → D j = D' j) → Sc ops Sx D l S = Sc ops Sx D' l S
 | [],S,_=>rfl
 | j :: l,S,h=>by
  have e : (if (D j && chO ops j) = true then Sx (j + 1) else S) = (if (D' j && chO ops j) = true then Sx (j + 1) else S):=by
   cases hc : chO ops j with
   | true=>rw [h j (by simp) hc]
   | false=>simp
  rw [Sc,Sc,e]
  exact Sc_congr l _ fun i hi=>h i (List.mem_cons_of_mem _ hi)
theorem range_split {i n : Nat} (h : i < n) : List.range n = List.range i ++ i :: (List.range' (i + 1) (n - (i + 1))):=by
 rw [List.range_eq_range',List.range_eq_range',← List.range'_succ (s:=i) (n:=n - (i + 1)) (step:=1)]
 have:=List.range'_append (s:=0) (m:=i) (n:=n - (i + 1) + 1) (step:=1)
 simp only [Nat.one_mul,Nat.zero_add] at this
 rw [this]
 congr 1
 omega
structure Drawn (P : Program) (ops : Array Oper) (fr0 : List AV) (S0 : ASt) (V : Nat → AV) (Sx : Nat → ASt) : Prop where
 stat : statD ops = true
 start : Sx 0 = S0
 step : ∀ i o,ops[i]? = some o → (wantA ops o (frD ops V (fun j=>decide (j < i)) (List.range i) fr0) = some false ∧ V i = .un ∧ Sx (i + 1) = Sx i) ∨
  (wantA ops o (frD ops V (fun j=>decide (j < i)) (List.range i) fr0) = some true ∧
   ((evP P o (frD ops V (fun j=>decide (j < i)) (List.range i) fr0) = some (V i) ∧ kindO o = 0 ∧ Sx (i + 1) = Sx i) ∨
    (∃ ref,evL P o (frD ops V (fun j=>decide (j < i)) (List.range i) fr0) (Sx i) = some (V i,ref) ∧ kindO o = 1 ∧ Sx (i + 1) = Sx i ∧
     ∀ d k,ref = some (d,k) → ∀ m,m < ops.size → chO ops m = true → ordB ops m i = true ∨ ordB ops i m = true ∨ get2 (Sx (m + 1)) d k = get2 (Sx m) d k) ∨
    (kindO o = 2 ∧ ((∃ lg,evC P o (frD ops V (fun j=>decide (j < i)) (List.range i) fr0) (Sx i) = some (V i,Sx (i + 1),lg)) ∨ (∃ F args,callA o (frD ops V (fun j=>decide (j < i)) (List.range i) fr0) = some (F,args) ∧ ADet P F args (Sx i) (V i) (Sx (i + 1)))))))
variable {S0 : ASt}
theorem Drawn.same (hd : Drawn P ops fr0 S0 V Sx) {i : Nat} {o : Oper} (ho : ops[i]? = some o) (hk : kindO o ≠ 2) : Sx (i + 1) = Sx i:=by
 rcases hd.step i o ho with h | ⟨_,h⟩
 ·exact h.2.2
 ·rcases h with h | ⟨_,h⟩ | h
  ·exact h.2.2
  ·exact h.2.2.1
  ·exact absurd h.1 hk
theorem Drawn.all_to (hd : Drawn P ops fr0 S0 V Sx) (i : Nat) (hi : i ≤ ops.size) : Sc ops Sx (fun j=>decide (j < i)) (List.range i) (Sx 0) = Sx i:=by
 have key : ∀ n,n ≤ i → Sc ops Sx (fun j=>decide (j < i)) (List.range n) (Sx 0) = Sx n:=by
  intro n
  induction n with
  | zero=>intro _; rfl
  | succ n ih =>
   intro hn
   rw [List.range_succ,Sc_append,ih (by omega)]
   rw [Sc,Sc]
   have hlt : n < ops.size:=by omega
   have ho : ops[n]? = some ops[n]:=Array.getElem?_eq_getElem hlt
   cases hc : chO ops n with
   | true=>simp; omega
   | false =>
    simp only [Bool.and_false,Bool.false_eq_true,if_false]
    exact (hd.same ho (fun hk=>by simp [chO,ho,hk] at hc)).symm
 exact key i (Nat.le_refl _)
theorem after_anc {listed : Nat → Bool} (hJ : ∀ i o,ops[i]? = some o → listed i = true → ∀ e ∈ o.after,Region.binds .any e = true → listed e.on = true) {i j : Nat} (h : Anc ops i j) : listed i = true → listed j = true:=by
 induction h with
 | step ho he hb=>exact fun hl=>hJ _ _ ho hl _ he hb
 | trans ho he hb _ ih=>exact fun hl=>ih (hJ _ _ ho hl _ he hb)
def Closed (ops : Array Oper) (D : Nat → Bool) : Prop:=∀ i o,ops[i]? = some o → D i = true → ∀ e ∈ o.after,Region.binds .any e = true → D e.on = true
theorem apart_symm {x y : Oper} (h : x.apart ops y = true) : y.apart ops x = true:=by
 obtain ⟨h1,h2,h3⟩:=Oper.apart_spec h
 unfold Oper.apart
 cases hx : x.dst <;> cases hy : y.dst <;> simp_all
 intro he
 exact absurd he.symm h2
theorem Drawn.free (hd : Drawn P ops fr0 S0 V Sx) {D : Nat → Bool} (hJ : Closed ops D) {i : Nat} {o : Oper} (ho : ops[i]? = some o) (hi : D i = false) (hr : ∀ e ∈ o.after,Region.binds .any e = true → D e.on = true) {j : Nat} {x : Oper} (hx : ops[j]? = some x) (hne : j ≠ i) (hc : x.apart ops o = false ∨ o.apart ops x = false ∨ (kindO x = 2 ∧ kindO o = 2)) : D j = decide (j < i):=by
 obtain ⟨h1,h2⟩:=statD_spec hd.stat
 have hanc : ∀ k,Anc ops i k → D k = true:=fun k hk=>by
  cases hk with
  | step ho' he hb=>rw [ho] at ho'; cases ho'; exact hr _ he hb
  | trans ho' he hb ht=>rw [ho] at ho'; cases ho'; exact after_anc hJ ht (hr _ he hb)
 have hs : ∀ a b : Oper,a.apart ops b = false → b.apart ops a = false:=fun a b h=>by
  cases hb : b.apart ops a with
  | false=>rfl
  | true=>rw [apart_symm hb] at h; cases h
 rcases Nat.lt_trichotomy j i with hlt | heq | hlt
 ·have:=hanc j (h2 i j o x hlt ho hx (by
   rcases hc with h | h | h
   ·exact .inl h
   ·exact .inl (hs _ _ h)
   ·exact .inr h))
  rw [this]; simp [hlt]
 ·exact absurd heq hne
 ·have hA:=h2 j i x o hlt hx ho (by
   rcases hc with h | h | h
   ·exact .inl (hs _ _ h)
   ·exact .inl h
   ·exact .inr ⟨h.2,h.1⟩)
  cases hD : D j with
  | false=>simp; omega
  | true=>have:=after_anc hJ hA hD; rw [hi] at this; cases this
theorem size_lt {i : Nat} {o : Oper} (ho : ops[i]? = some o) : i < ops.size:=(Array.getElem?_eq_some_iff.1 ho).1
theorem Drawn.looks (hd : Drawn P ops fr0 S0 V Sx) {D : Nat → Bool} (hJ : Closed ops D) {i : Nat} {o : Oper} (ho : ops[i]? = some o) (hi : D i = false) (hr : ∀ e ∈ o.after,Region.binds .any e = true → D e.on = true) : ∀ t ∈ o.looksAt ops,(frD ops V (fun j=>decide (j < i)) (List.range i) fr0)[t]? = (frD ops V D (List.range ops.size) fr0)[t]?:=by
 intro t ht
 have key : ∀ j x,ops[j]? = some x → x.dst = some t → j ≠ i → D j = decide (j < i):=fun j x hx hdst hne=>hd.free hJ ho hi hr hx hne (by
  left
  cases h : x.apart ops o with
  | false=>rfl
  | true=>exact absurd ht ((Oper.apart_spec h).1 t hdst))
 have hdst : ∀ j,dstO ops j = some t → ∃ x,ops[j]? = some x ∧ x.dst = some t:=fun j hj=>Option.bind_eq_some_iff.1 hj
 rw [range_split (size_lt ho),frD_append]
 have h1 : (frD ops V (fun j=>decide (j < i)) (List.range i) fr0)[t]? = (frD ops V D (List.range i) fr0)[t]?:=frD_agree _ _ _ rfl rfl fun j hj hjt=>by
  obtain ⟨x,hx,hxt⟩:=hdst j hjt
  have:=List.mem_range.1 hj
  rw [key j x hx hxt (by omega)]
 have h2 : (frD ops V D (i :: List.range' (i + 1) (ops.size - (i + 1))) (frD ops V D (List.range i) fr0))[t]? = (frD ops V (fun _=>false) (i :: List.range' (i + 1) (ops.size - (i + 1))) (frD ops V D (List.range i) fr0))[t]?:=frD_agree _ _ _ rfl rfl fun j hj hjt=>by
  obtain ⟨x,hx,hxt⟩:=hdst j hjt
  rcases List.mem_cons.1 hj with rfl | hj
  ·exact hi
  ·have:=List.mem_range'_1.1 hj
   rw [key j x hx hxt (by omega)]
   simp; omega
 have h3 : ∀ (l : List Nat) (fr : List AV),frD ops V (fun _=>false) l fr = fr:=fun l=>by
  induction l with
  | nil=>intro fr; rfl
  | cons j l ih=>intro fr; rw [frD,if_neg (by simp),ih]
 rw [h1,h2,h3]
theorem Drawn.put (hd : Drawn P ops fr0 S0 V Sx) {D D' : Nat → Bool} (hJ : Closed ops D) {i : Nat} {o : Oper} (ho : ops[i]? = some o) (hi : D i = false) (hr : ∀ e ∈ o.after,Region.binds .any e = true → D e.on = true) (hD' : ∀ j,D' j = if j = i then true else D j) : frD ops V D' (List.range ops.size) fr0 = putA (frD ops V D (List.range ops.size) fr0) o.dst (V i):=by
 apply List.ext_getElem?
 intro t
 have hlen : ∀ D l,(frD ops V D l fr0).length = fr0.length:=fun D l=>frD_len D l fr0
 by_cases ht : o.dst = some t
 ·have key : ∀ j x,ops[j]? = some x → x.dst = some t → j ≠ i → D j = decide (j < i):=fun j x hx hdst hne=>hd.free hJ ho hi hr hx hne (by
   left
   cases h : x.apart ops o with
   | false=>rfl
   | true=>exact absurd ht ((Oper.apart_spec h).2.1 t hdst))
  rw [ht]
  simp only [putA]
  rw [range_split (size_lt ho),frD_append,frD,hD' i,if_pos rfl,if_pos rfl]
  have hdi : dstO ops i = some t:=by simp [dstO,ho,ht]
  have h2 : ∀ (l : List Nat) (fr : List AV),(∀ j ∈ l,i < j) → (frD ops V D' l fr)[t]? = fr[t]?:=fun l fr hl=>by
   have:=frD_agree (ops:=ops) (V:=V) (t:=t) (D:=D') (D':=fun _=>false) l fr fr rfl rfl fun j hj hjt=>by
    obtain ⟨x,hx,hxt⟩:=Option.bind_eq_some_iff.1 (show (ops[j]?).bind (·.dst) = some t from hjt)
    have:=hl j hj
    rw [hD' j,if_neg (by omega),key j x hx hxt (by omega)]
    simp; omega
   rw [this]
   clear this
   induction l generalizing fr with
   | nil=>rfl
   | cons j l ih=>rw [frD,if_neg (by simp),ih fr fun k hk=>hl k (List.mem_cons_of_mem _ hk)]
  rw [h2 _ _ (fun j hj=>by have:=List.mem_range'_1.1 hj; omega),hdi]
  simp only [putA]
  rw [List.getElem?_set,List.getElem?_set,hlen]
  simp [frD_len,frD_append]
 ·rw [putA_ne _ ht]
  refine frD_agree _ _ _ rfl rfl fun j hj hjt=>?_
  obtain ⟨x,hx,hxt⟩:=Option.bind_eq_some_iff.1 (show (ops[j]?).bind (·.dst) = some t from hjt)
  rw [hD' j,if_neg (fun hji=>?_)]
  subst hji
  rw [ho] at hx; cases hx
  exact ht hxt
theorem Drawn.tail (hd : Drawn P ops fr0 S0 V Sx) {D : Nat → Bool} : ∀ (l : List Nat) (S : ASt),(∀ j ∈ l,chO ops j = true → D j = false) → Sc ops Sx D l S = S
 | [],S,_=>rfl
 | j :: l,S,h=>by
  rw [Sc,if_neg (fun hc=>by simp only [Bool.and_eq_true] at hc; have:=h j (by simp) hc.2; rw [hc.1] at this; cases this)]
  exact Drawn.tail hd l S fun k hk=>h k (List.mem_cons_of_mem _ hk)
theorem Drawn.chain (hd : Drawn P ops fr0 S0 V Sx) {D : Nat → Bool} (hJ : Closed ops D) {i : Nat} {o : Oper} (ho : ops[i]? = some o) (hi : D i = false) (hr : ∀ e ∈ o.after,Region.binds .any e = true → D e.on = true) (hk : kindO o = 2) : Sc ops Sx D (List.range ops.size) (Sx 0) = Sx i:=by
 have key : ∀ j,chO ops j = true → j ≠ i → D j = decide (j < i):=fun j hj hne=>by
  cases hx : ops[j]? with
  | none=>simp [chO,hx] at hj
  | some x=>exact hd.free hJ ho hi hr hx hne (.inr (.inr ⟨by simpa [chO,hx] using hj,hk⟩))
 have e1 : Sc ops Sx D (List.range i) (Sx 0) = Sx i:=by
  rw [Sc_congr (D':=fun j=>decide (j < i)) (List.range i) _ fun j hj hc=>key j hc (by have:=List.mem_range.1 hj; omega)]
  exact hd.all_to i (Nat.le_of_lt (size_lt ho))
 rw [range_split (size_lt ho),Sc_append,e1]
 refine hd.tail _ _ fun j hj hc=>?_
 rcases List.mem_cons.1 hj with rfl | hj
 ·exact hi
 ·have:=List.mem_range'_1.1 hj
  rw [key j hc (by omega)]
  simp; omega
theorem Drawn.chain_next (hd : Drawn P ops fr0 S0 V Sx) {D D' : Nat → Bool} (hJ : Closed ops D) {i : Nat} {o : Oper} (ho : ops[i]? = some o) (hi : D i = false) (hr : ∀ e ∈ o.after,Region.binds .any e = true → D e.on = true) (hk : kindO o = 2) (hD' : ∀ j,D' j = if j = i then true else D j) : Sc ops Sx D' (List.range ops.size) (Sx 0) = Sx (i + 1):=by
 have key : ∀ j,chO ops j = true → j ≠ i → D j = decide (j < i):=fun j hj hne=>by
  cases hx : ops[j]? with
  | none=>simp [chO,hx] at hj
  | some x=>exact hd.free hJ ho hi hr hx hne (.inr (.inr ⟨by simpa [chO,hx] using hj,hk⟩))
 have e1 : Sc ops Sx D' (List.range i) (Sx 0) = Sx i:=by
  rw [Sc_congr (D':=fun j=>decide (j < i)) (List.range i) _ fun j hj hc=>by
   have:=List.mem_range.1 hj
   rw [hD' j,if_neg (by omega)]
   exact key j hc (by omega)]
  exact hd.all_to i (Nat.le_of_lt (size_lt ho))
 rw [range_split (size_lt ho),Sc_append,e1,Sc]
 have hci : chO ops i = true:=by simp [chO,ho,hk]
 rw [hD' i,if_pos rfl,hci,Bool.and_self,if_pos rfl]
 refine hd.tail _ _ fun j hj hc=>?_
 have:=List.mem_range'_1.1 hj
 rw [hD' j,if_neg (by omega),key j hc (by omega)]
 simp; omega
theorem Drawn.kept (hd : Drawn P ops fr0 S0 V Sx) {D : Nat → Bool} (hJ : Closed ops D) {i : Nat} {o : Oper} (ho : ops[i]? = some o) (hi : D i = false) (hr : ∀ e ∈ o.after,Region.binds .any e = true → D e.on = true) {d k : Nat}
  (hm : ∀ m,m < ops.size → chO ops m = true → ordB ops m i = true ∨ ordB ops i m = true ∨ get2 (Sx (m + 1)) d k = get2 (Sx m) d k) : get2 (Sc ops Sx D (List.range ops.size) (Sx 0)) d k = get2 (Sx i) d k:=by
 obtain ⟨g1,g2⟩:=statD_spec hd.stat
 have hanc : ∀ k,Anc ops i k → D k = true:=fun k hk=>by
  cases hk with
  | step ho' he hb=>rw [ho] at ho'; cases ho'; exact hr _ he hb
  | trans ho' he hb ht=>rw [ho] at ho'; cases ho'; exact after_anc hJ ht (hr _ he hb)
 have hlt : ∀ a b,Anc ops a b → b < a:=fun a b h=>by
  induction h with
  | step ho he hb=>exact g1 _ _ ho _ he hb
  | trans ho he hb _ ih=>have:=g1 _ _ ho _ he hb; omega
 have hsame : ∀ m,m < ops.size → chO ops m = false → Sx (m + 1) = Sx m:=fun m hm hc=>by
  have hx : ops[m]? = some ops[m]:=Array.getElem?_eq_getElem hm
  exact hd.same hx fun hk=>by simp [chO,hx,hk] at hc
 have hchain : ∀ a b,a < b → b < ops.size → chO ops a = true → chO ops b = true → D b = true → D a = true:=fun a b hab hb ha hcb hDb=>by
  have hxa : ops[a]? = some ops[a]:=Array.getElem?_eq_getElem (by omega)
  have hxb : ops[b]? = some ops[b]:=Array.getElem?_eq_getElem hb
  exact after_anc hJ (g2 b a _ _ hab hxb hxa (.inr ⟨by simpa [chO,hxa] using ha,by simpa [chO,hxb] using hcb⟩)) hDb
 have hfix : ∀ m,m < ops.size → chO ops m = true → (D m = true → i < m) → (D m = false → m < i) → get2 (Sx (m + 1)) d k = get2 (Sx m) d k:=fun m hms hc h1 h2=>by
  rcases hm m hms hc with h | h | h
  ·have hA:=ordB_anc h
   have:=hanc _ hA
   have:=hlt _ _ hA
   have:=h1 (hanc _ hA)
   omega
  ·have hA:=ordB_anc h
   have:=hlt _ _ hA
   cases hD : D m with
   | true=>have:=after_anc hJ hA hD; rw [hi] at this; cases this
   | false=>have:=h2 hD; omega
  ·exact h
 have head : ∀ n,n ≤ i → get2 (Sc ops Sx D (List.range n) (Sx 0)) d k = get2 (Sx n) d k:=by
  intro n
  induction n with
  | zero=>intro _; rfl
  | succ n ih =>
   intro hn
   have hns : n < ops.size:=by have:=size_lt ho; omega
   rw [List.range_succ,Sc_append,Sc,Sc]
   cases hc : chO ops n with
   | false=>simp only [Bool.and_false,Bool.false_eq_true,if_false]; rw [ih (by omega),hsame n hns hc]
   | true =>
    cases hD : D n with
    | true=>simp
    | false =>
     simp only [Bool.and_true,Bool.false_eq_true,if_false]
     rw [ih (by omega)]
     exact (hfix n hns hc (fun h=>by rw [hD] at h; cases h) (fun _=>by omega)).symm
 have hfull : ∀ n b,n ≤ b → b < ops.size → chO ops b = true → D b = true → Sc ops Sx D (List.range n) (Sx 0) = Sx n:=by
  intro n b hnb hb hcb hDb
  induction n with
  | zero=>rfl
  | succ n ih =>
   rw [List.range_succ,Sc_append,Sc,Sc,ih (by omega)]
   cases hc : chO ops n with
   | false=>simp only [Bool.and_false,Bool.false_eq_true,if_false]; rw [hsame n (by omega) hc]
   | true=>rw [hchain n b (by omega) hb hc hcb hDb]; simp
 have rest : ∀ n,i ≤ n → n ≤ ops.size → get2 (Sc ops Sx D (List.range n) (Sx 0)) d k = get2 (Sx i) d k:=by
  intro n
  induction n with
  | zero =>
   intro h1 _
   obtain rfl : i = 0:=(by omega)
   rfl
  | succ n ih =>
   intro h1 h2
   by_cases hni : n + 1 = i
   ·subst hni; exact head _ (Nat.le_refl _)
   ·rw [List.range_succ,Sc_append,Sc,Sc]
    cases hc : chO ops n with
    | false=>simp only [Bool.and_false,Bool.false_eq_true,if_false]; exact ih (by omega) (by omega)
    | true =>
     cases hD : D n with
     | false=>simp only [Bool.and_true,Bool.false_eq_true,if_false]; exact ih (by omega) (by omega)
     | true =>
      simp only [Bool.and_true,if_true]
      have hin : i ≠ n:=fun h=>by subst h; rw [hi] at hD; cases hD
      have e1:=hfix n (by omega) hc (fun _=>by omega) (fun h=>by rw [hD] at h; cases h)
      have e2:=ih (by omega) (by omega)
      rw [hfull n n (Nat.le_refl _) (by omega) hc hD] at e2
      exact e1.trans e2
 exact rest _ (Nat.le_of_lt (size_lt ho)) (Nat.le_refl _)
theorem Drawn.any (hd : Drawn P ops fr0 S0 V Sx) {Q : Exit → List AV → ASt → Prop} (hQ : Q .normal (frD ops V (fun _=>true) (List.range ops.size) fr0) (Sx ops.size)) {Pr0 : Prot} {φ0 : Fi2} {a0 : Act} {w0 : World} :
  ∀ (fuel : Nat) (listed : Array Bool) (Pr : Prot) (φ : Fi2) (a : Act) (w : World),listed.size = ops.size → (∀ j,j < ops.size → listed.getD j true = false → True) → ((List.range ops.size).filter fun j=>!listed.getD j true).length ≤ fuel → Closed ops (fun j=>listed.getD j false) →
   RF Pr φ (frD ops V (fun j=>listed.getD j false) (List.range ops.size) fr0) a → Rel Pr φ (Sc ops Sx (fun j=>listed.getD j false) (List.range ops.size) (Sx 0)) w → φ ≠ [] → Stp Pr0 φ0 w0 Pr φ w → a.defers = a0.defers → wpAny P .any ops (Post Pr0 φ0 a0 w0 Q) fuel listed a w:=by
 obtain ⟨g1,g2⟩:=statD_spec hd.stat
 have done : ∀ (listed : Array Bool) (Pr : Prot) (φ : Fi2) (a : Act) (w : World),listed.size = ops.size → Region.ready .any ops listed = [] → RF Pr φ (frD ops V (fun j=>listed.getD j false) (List.range ops.size) fr0) a → Rel Pr φ (Sc ops Sx (fun j=>listed.getD j false) (List.range ops.size) (Sx 0)) w → Stp Pr0 φ0 w0 Pr φ w → a.defers = a0.defers → Post Pr0 φ0 a0 w0 Q .normal a w:=by
  intro listed Pr φ a w hsz hr hf hR hs hdf
  have hall : ∀ i,i < ops.size → listed.getD i false = true:=by
   intro i
   induction i using Nat.strongRecOn with
   | _ i ih =>
    intro hi
    cases hl : listed.getD i false with
    | true=>rfl
    | false =>
     have ho : ops[i]? = some ops[i]:=Array.getElem?_eq_getElem hi
     have hmem : i ∈ Region.ready .any ops listed:=by
      refine List.mem_filter.2 ⟨List.mem_range.2 hi,?_⟩
      have hl' : listed.getD i true = false:=by
       have hil : i < listed.size:=by omega
       simp [Array.getD,hil] at hl ⊢
       exact hl
      simp only [hl',Bool.not_false,Bool.true_and,ho,Option.map_some,Option.getD_some]
      rw [Array.all_eq_true]
      intro x hx
      cases hb : Region.binds .any ops[i].after[x] with
      | false=>simp
      | true =>
       have hlt:=g1 i _ ho ops[i].after[x] (Array.getElem_mem hx) hb
       simp only [Bool.not_true,Bool.false_or]
       exact ih _ hlt (by omega)
     rw [hr] at hmem; cases hmem
  have e1 : frD ops V (fun j=>listed.getD j false) (List.range ops.size) fr0 = frD ops V (fun _=>true) (List.range ops.size) fr0:=by
   apply List.ext_getElem?
   intro t
   exact frD_agree _ _ _ rfl rfl fun j hj _=>hall j (List.mem_range.1 hj)
  have e2 : Sc ops Sx (fun j=>listed.getD j false) (List.range ops.size) (Sx 0) = Sx ops.size:=by
   rw [Sc_congr (D':=fun j=>decide (j < ops.size)) _ _ fun j hj _=>by rw [hall j (List.mem_range.1 hj)]; simp [List.mem_range.1 hj]]
   exact hd.all_to _ (Nat.le_refl _)
  exact ⟨_,_,Pr,φ,hQ,by rw [← e1]; exact hf,by rw [← e2]; exact hR,hs,hdf⟩
 intro fuel
 induction fuel with
 | zero =>
  intro listed Pr φ a w hsz _ hfuel hJ hf hR hne hs hdf
  have hnil : Region.ready .any ops listed = []:=by
   have h0 : (List.range ops.size).filter (fun j=>!listed.getD j true) = []:=List.eq_nil_of_length_eq_zero (by omega)
   rw [List.eq_nil_iff_forall_not_mem]
   intro j hj
   obtain ⟨h1,h2⟩:=List.mem_filter.1 hj
   simp only [Bool.and_eq_true] at h2
   have : j ∈ (List.range ops.size).filter (fun j=>!listed.getD j true):=List.mem_filter.2 ⟨h1,h2.1⟩
   rw [h0] at this; cases this
  exact ⟨hnil,done listed Pr φ a w hsz hnil hf hR hs hdf⟩
 | succ fuel ih =>
  intro listed Pr φ a w hsz _ hfuel hJ hf hR hne hs hdf
  refine ⟨fun hr=>done listed Pr φ a w hsz hr hf hR hs hdf,fun i hi=>?_⟩
  obtain ⟨hun,o,ho,hall⟩:=mem_ready.1 hi
  have his : i < ops.size:=size_lt ho
  have hil : i < listed.size:=by omega
  have hi0 : listed.getD i false = false:=by
   simp [Array.getD,hil] at hun ⊢
   exact hun
  have hrd : ∀ e ∈ o.after,Region.binds .any e = true → listed.getD e.on false = true:=hall
  have hD' : ∀ j,(listed.setIfInBounds i true).getD j false = if j = i then true else listed.getD j false:=fun j=>by
   by_cases hj : j = i
   ·subst hj; simp [Array.getD,hil]
   ·rw [if_neg hj]
    simp only [Array.getD_eq_getD_getElem?]
    rw [Array.getElem?_setIfInBounds_ne (by omega)]
  have hJ' : Closed ops (fun j=>(listed.setIfInBounds i true).getD j false):=fun j x hx hj e he hb=>by
   show (listed.setIfInBounds i true).getD e.on false = true
   rw [hD']
   split
   ·rfl
   ·by_cases hji : j = i
    ·subst hji; rw [ho] at hx; cases hx; exact hrd e he hb
    ·have : listed.getD j false = true:=by
      have hj' : (listed.setIfInBounds i true).getD j false = true:=hj
      rw [hD',if_neg hji] at hj'; exact hj'
     exact hJ j x hx this e he hb
  have hfuel' : ((List.range ops.size).filter fun j=>!(listed.setIfInBounds i true).getD j true).length ≤ fuel:=by
   have h1 : ((List.range ops.size).filter fun j=>!(listed.setIfInBounds i true).getD j true) = ((List.range ops.size).filter fun j=>!listed.getD j true).filter (fun j=>!(j == i)):=by
    rw [List.filter_filter]
    refine List.filter_congr fun j hj=>?_
    by_cases hji : j = i
    ·subst hji; simp [Array.getD,hil]
    ·simp only [Array.getD_eq_getD_getElem?]
     rw [Array.getElem?_setIfInBounds_ne (by omega)]
     simp [hji]
   have h2 : i ∈ (List.range ops.size).filter fun j=>!listed.getD j true:=List.mem_filter.2 ⟨List.mem_range.2 his,by rw [hun]; rfl⟩
   have h3 : (((List.range ops.size).filter fun j=>!listed.getD j true).filter (fun j=>!(j == i))).length < ((List.range ops.size).filter fun j=>!listed.getD j true).length:=by
    refine List.length_filter_lt_length_iff_exists.2 ⟨i,h2,by simp⟩
   rw [h1]; omega
  have hlooks:=hd.looks (D:=fun j=>listed.getD j false) hJ ho hi0 hrd
  have hev:=looks_ev hlooks
  have hframe:=hd.put (D:=fun j=>listed.getD j false) (D':=fun j=>(listed.setIfInBounds i true).getD j false) hJ ho hi0 hrd hD'
  have go : ∀ (S' : ASt),Sc ops Sx (fun j=>(listed.setIfInBounds i true).getD j false) (List.range ops.size) (Sx 0) = S' → ∀ x w' Pr' φ',Stp Pr φ w Pr' φ' w' → Rel Pr' φ' S' w' → RA Pr' φ' (V i) x → wpAny P .any ops (Post Pr0 φ0 a0 w0 Q) fuel (listed.setIfInBounds i true) (a.put o.dst x) w':=by
   intro S' hS' x w' Pr' φ' s1 s2 s3
   refine ih (listed.setIfInBounds i true) Pr' φ' _ w' (by simpa using hsz) (fun _ _ _=>trivial) hfuel' hJ' ?_ ?_ (ne_of_stp s1 hne) (hs.trans s1) ((put_defers _ _ _).trans hdf)
   ·rw [hframe]; exact (hf.mono s1.pl s1.fl).put o.dst s3
   ·rw [hS']; exact s2
  have hquiet : kindO o ≠ 2 → Sc ops Sx (fun j=>(listed.setIfInBounds i true).getD j false) (List.range ops.size) (Sx 0) = Sc ops Sx (fun j=>listed.getD j false) (List.range ops.size) (Sx 0):=fun hk=>Sc_congr _ _ fun j _ hc=>by
   rw [hD',if_neg (fun hji=>?_)]
   subst hji
   simp [chO,ho] at hc
   exact hk hc
  unfold wpOp
  rw [ho]
  simp only
  rcases hd.step i o ho with ⟨hw,hV,hSS⟩ | ⟨hw,hstep⟩
  ·rw [wantA_congr hlooks] at hw
   simp only [wantA_ok hf hw,Bool.false_eq_true,if_false]
   refine go _ ?_ undef w Pr φ (Stp.refl _ _ _) hR (by rw [hV]; exact .un)
   by_cases hk : kindO o = 2
   ·rw [hd.chain_next (D:=fun j=>listed.getD j false) hJ ho hi0 hrd hk hD',hSS,hd.chain (D:=fun j=>listed.getD j false) hJ ho hi0 hrd hk]
   ·exact hquiet hk
  ·rw [wantA_congr hlooks] at hw
   simp only [wantA_ok hf hw,if_true]
   left
   rcases hstep with ⟨h1,hk,_⟩ | ⟨ref,h1,hk,_,hm⟩ | ⟨hk,h1⟩
   ·rw [evP_congr hev] at h1
    exact stepped_ok hf hR hne (.quiet h1) (go _ (hquiet (by omega)))
   ·have h2:=evL_congr hev h1 (S':=Sc ops Sx (fun j=>listed.getD j false) (List.range ops.size) (Sx 0)) fun d k hr=>hd.kept (D:=fun j=>listed.getD j false) hJ ho hi0 hrd (hm d k hr)
    exact stepped_ok hf hR hne (.load h2) (go _ (hquiet (by omega)))
   ·have hSi:=hd.chain (D:=fun j=>listed.getD j false) hJ ho hi0 hrd hk
    have hSn:=hd.chain_next (D:=fun j=>listed.getD j false) hJ ho hi0 hrd hk hD'
    rw [hSi] at hR
    rcases h1 with ⟨lg,h1⟩ | ⟨F,args,h1,h2⟩
    ·rw [evC_congr hev] at h1
     exact stepped_ok hf hR hne (.chain h1) (go _ hSn)
    ·rw [callA_congr hev] at h1
     exact stepped_ok hf hR hne (callA_ok h1 h2) (go _ hSn)
theorem Drawn.region (hd : Drawn P ops fr0 S0 V Sx) {Q : Exit → List AV → ASt → Prop} (hQ : Q .normal (frD ops V (fun _=>true) (List.range ops.size) fr0) (Sx ops.size)) : ARegion P ops fr0 S0 Q:=by
 intro Pr0 φ0 a0 w0 Pr φ a w hf hR hne hs hdf
 have e0 : ∀ j,(Array.replicate ops.size false).getD j false = false:=fun j=>by
  simp only [Array.getD_eq_getD_getElem?,Array.getElem?_replicate]
  split <;> rfl
 have e1 : ∀ (l : List Nat) (fr : List AV),frD ops V (fun j=>(Array.replicate ops.size false).getD j false) l fr = fr:=fun l=>by
  induction l with
  | nil=>intro fr; rfl
  | cons j l ih=>intro fr; rw [frD,e0,if_neg (by simp),ih]
 refine hd.any hQ ops.size _ Pr φ a w (by simp) (fun _ _ _=>trivial) (Nat.le_trans (List.length_filter_le _ _) (by simp)) (fun i o ho hi=>by
  have hi' : (Array.replicate ops.size false).getD i false = true:=hi
  rw [e0] at hi'; cases hi') (by rw [e1]; exact hf) ?_ hne hs hdf
 rw [hd.tail _ _ fun j _ _=>e0 j,hd.start]
 exact hR
end
end Go.Proofs.YtfiohepfohhibaaDoor
namespace Go.Proofs.YtfiohepfohhibaaDoor
open Go.RowKit
def needLC (ops : Array Oper) : List (Nat × Nat) :=
 let M:=masks ops.toList []
 ops.toList.zipIdx.flatMap fun (o,i)=>if kindO o == 1 then
  (ops.toList.zipIdx.filter fun (x,m)=>kindO x == 2 && !((M.getD i 0).testBit m) && !((M.getD m 0).testBit i)).map fun (_,m)=>(i,m) else []
def LCl (Ss : List ASt) (i m : Nat) : List (Nat × Nat × Nat) → Prop
 | []=>True
 | (j,d,k) :: ls=>(j = i → get2 (Ss.getD (m + 1) []) d k = get2 (Ss.getD m []) d k) ∧ LCl Ss i m ls
def LCp (Ss : List ASt) (ls : List (Nat × Nat × Nat)) : List (Nat × Nat) → Prop
 | []=>True
 | (i,m) :: prs=>LCl Ss i m ls ∧ LCp Ss ls prs
def refL (i : Nat) : Option (Nat × Nat) → List (Nat × Nat × Nat)
 | some (d,k)=>[(i,d,k)]
 | none=>[]
def awpD (P : Program) (ops : Array Oper) (prs : List (Nat × Nat)) (K : List AV → ASt → Prop) : List Oper → Nat → List AV → ASt → List AV → List ASt → List (Nat × Nat × Nat) → Prop
 | [],_,fr,S,_,Ss,ls=>LCp Ss ls prs ∧ K fr S
 | o :: os,i,fr,S,Vs,Ss,ls =>
  match wantA ops o fr with
  | some true =>
   match callA o fr with
   | some (F,args)=>∃ r S',ADet P F args S r S' ∧ awpD P ops prs K os (i + 1) (putA fr o.dst r) S' (Vs ++ [r]) (Ss ++ [S']) ls
   | none =>
    match evL P o fr S with
    | some (v,ref)=>awpD P ops prs K os (i + 1) (putA fr o.dst v) S (Vs ++ [v]) (Ss ++ [S]) (ls ++ refL i ref)
    | none =>
     match stepF P o fr S with
     | some (v,S')=>awpD P ops prs K os (i + 1) (putA fr o.dst v) S' (Vs ++ [v]) (Ss ++ [S']) ls
     | none=>False
  | some false=>awpD P ops prs K os (i + 1) (putA fr o.dst .un) S (Vs ++ [.un]) (Ss ++ [S]) ls
  | none=>False
theorem awpD_nil {P : Program} {ops : Array Oper} {prs : List (Nat × Nat)} {K : List AV → ASt → Prop} {i : Nat} {fr : List AV} {S : ASt} {Vs : List AV} {Ss : List ASt} {ls : List (Nat × Nat × Nat)} : awpD P ops prs K [] i fr S Vs Ss ls = (LCp Ss ls prs ∧ K fr S):=by rw [awpD]
def NextD (P : Program) (ops : Array Oper) (prs : List (Nat × Nat)) (K : List AV → ASt → Prop) (os : List Oper) (i : Nat) (fr : List AV) (dst : Option Nat) (Vs : List AV) (Ss : List ASt) (ls : List (Nat × Nat × Nat)) (r : AV) (S : ASt) : Prop:=awpD P ops prs K os i (putA fr dst r) S (Vs ++ [r]) (Ss ++ [S]) ls
theorem nextD_eq {P : Program} {ops : Array Oper} {prs : List (Nat × Nat)} {K : List AV → ASt → Prop} (os : List Oper) (i : Nat) {fr : List AV} (dst : Option Nat) {Vs : List AV} {Ss : List ASt} {ls : List (Nat × Nat × Nat)} (r : AV) {S : ASt} : NextD P ops prs K os i fr dst Vs Ss ls r S = awpD P ops prs K os i (putA fr dst r) S (Vs ++ [r]) (Ss ++ [S]) ls:=rfl
theorem awpD_cons {P : Program} {ops : Array Oper} {prs : List (Nat × Nat)} {K : List AV → ASt → Prop} (o : Oper) (os : List Oper) {i : Nat} {fr : List AV} {S : ASt} {Vs : List AV} {Ss : List ASt} {ls : List (Nat × Nat × Nat)} : awpD P ops prs K (o :: os) i fr S Vs Ss ls = (match wantA ops o fr with
  | some true =>
   match callA o fr with
   | some (F,args)=>CallQ P F args S (NextD P ops prs K os (i + 1) fr o.dst Vs Ss ls)
   | none =>
    match evL P o fr S with
    | some (v,ref)=>awpD P ops prs K os (i + 1) (putA fr o.dst v) S (Vs ++ [v]) (Ss ++ [S]) (ls ++ refL i ref)
    | none =>
     match stepF P o fr S with
     | some (v,S')=>awpD P ops prs K os (i + 1) (putA fr o.dst v) S' (Vs ++ [v]) (Ss ++ [S']) ls
     | none=>False
  | some false=>awpD P ops prs K os (i + 1) (putA fr o.dst .un) S (Vs ++ [.un]) (Ss ++ [S]) ls
  | none=>False):=by rw [awpD] <;> rfl
section
variable {P : Program} {ops : Array Oper} {fr0 : List AV}
theorem frD_congr {V V' : Nat → AV} {D : Nat → Bool} : ∀ (l : List Nat) (fr : List AV),(∀ j ∈ l,D j = true → V j = V' j) → frD ops V D l fr = frD ops V' D l fr
 | [],fr,_=>rfl
 | j :: l,fr,h=>by
  have e : (if D j = true then putA fr (dstO ops j) (V j) else fr) = (if D j = true then putA fr (dstO ops j) (V' j) else fr):=by
   split
   ·rename_i hd; rw [h j (by simp) hd]
   ·rfl
  rw [frD,frD,e]
  exact frD_congr l _ fun k hk=>h k (List.mem_cons_of_mem _ hk)
theorem getD_app {α : Type} {l : List α} {x d : α} {j : Nat} (h : j < l.length) : (l ++ [x]).getD j d = l.getD j d:=by
 simp [List.getD,List.getElem?_append_left h]
theorem getD_new {α : Type} {l : List α} {x d : α} : (l ++ [x]).getD l.length d = x:=by simp [List.getD]
def FactD (P : Program) (ops : Array Oper) (fr0 : List AV) (V : Nat → AV) (Sx : Nat → ASt) (ls : List (Nat × Nat × Nat)) (i : Nat) : Prop:=∀ o,ops[i]? = some o →
  (wantA ops o (frD ops V (fun j=>decide (j < i)) (List.range i) fr0) = some false ∧ V i = .un ∧ Sx (i + 1) = Sx i) ∨
  (wantA ops o (frD ops V (fun j=>decide (j < i)) (List.range i) fr0) = some true ∧
   ((evP P o (frD ops V (fun j=>decide (j < i)) (List.range i) fr0) = some (V i) ∧ kindO o = 0 ∧ Sx (i + 1) = Sx i) ∨
    (∃ ref,evL P o (frD ops V (fun j=>decide (j < i)) (List.range i) fr0) (Sx i) = some (V i,ref) ∧ kindO o = 1 ∧ Sx (i + 1) = Sx i ∧ ∀ d k,ref = some (d,k) → (i,d,k) ∈ ls) ∨
    (kindO o = 2 ∧ ((∃ lg,evC P o (frD ops V (fun j=>decide (j < i)) (List.range i) fr0) (Sx i) = some (V i,Sx (i + 1),lg)) ∨ (∃ F args,callA o (frD ops V (fun j=>decide (j < i)) (List.range i) fr0) = some (F,args) ∧ ADet P F args (Sx i) (V i) (Sx (i + 1)))))))
theorem FactD.ext {V V' : Nat → AV} {Sx Sx' : Nat → ASt} {ls ls' : List (Nat × Nat × Nat)} {i : Nat} (h : FactD P ops fr0 V Sx ls i) (hV : ∀ j,j ≤ i → V' j = V j) (hS : ∀ j,j ≤ i + 1 → Sx' j = Sx j) (hl : ∀ x ∈ ls,x ∈ ls') : FactD P ops fr0 V' Sx' ls' i:=by
 intro o ho
 have e : frD ops V' (fun j=>decide (j < i)) (List.range i) fr0 = frD ops V (fun j=>decide (j < i)) (List.range i) fr0:=frD_congr _ _ fun j hj _=>hV j (by have:=List.mem_range.1 hj; omega)
 rw [e,hV i (Nat.le_refl _),hS i (by omega),hS (i + 1) (Nat.le_refl _)]
 rcases h o ho with h | ⟨h1,h | ⟨ref,h2,h3,h4,h5⟩ | h⟩
 ·exact .inl h
 ·exact .inr ⟨h1,.inl h⟩
 ·exact .inr ⟨h1,.inr (.inl ⟨ref,h2,h3,h4,fun d k hr=>hl _ (h5 d k hr)⟩)⟩
 ·exact .inr ⟨h1,.inr (.inr h)⟩
theorem kind_load {o : Oper} {fr : List AV} {S : ASt} {r : AV × Option (Nat × Nat)} (h : evL P o fr S = some r) : kindO o = 1:=by
 unfold evL at h
 unfold kindO
 split at h
 ·rename_i ho; simp [ho]
 ·rename_i ho; simp [ho]
 ·rename_i ho; simp [ho]
 ·rename_i ho
  split at h
  ·rename_i ht; simp [ho,ht]
  ·cases h
 ·cases h
theorem kind_call {o : Oper} {fr : List AV} {r : FuncId × List AV} (h : callA o fr = some r) : kindO o = 2:=by
 unfold callA at h
 unfold kindO
 split at h
 ·rename_i c ho
  split at h
  ·rename_i f hf
   simp [ho,hf]
  ·cases h
 ·cases h
theorem stepF_kind {o : Oper} {fr : List AV} {S S' : ASt} {v : AV} (h : stepF P o fr S = some (v,S')) (hl : evL P o fr S = none) : (evP P o fr = some v ∧ kindO o = 0 ∧ S' = S) ∨ (kindO o = 2 ∧ ∃ lg,evC P o fr S = some (v,S',lg)):=by
 have hc : (evC P o fr S).map (fun r=>(r.1,r.2.1)) = some (v,S') → ∃ lg,evC P o fr S = some (v,S',lg):=fun h=>by
  obtain ⟨⟨v1,S1,lg⟩,h1,h2⟩:=Option.map_eq_some_iff.1 h
  cases h2
  exact ⟨lg,h1⟩
 have hp : (evP P o fr).map (fun v=>(v,S)) = some (v,S') → evP P o fr = some v ∧ S' = S:=fun h=>by
  obtain ⟨v1,h1,h2⟩:=Option.map_eq_some_iff.1 h
  cases h2
  exact ⟨h1,rfl⟩
 unfold stepF at h
 split at h
 ·rw [hl] at h; cases h
 ·rw [hl] at h; cases h
 ·rw [hl] at h; cases h
 ·rename_i ho; exact .inr ⟨by simp [kindO,ho],hc h⟩
 ·rename_i ho; exact .inr ⟨by simp [kindO,ho],hc h⟩
 ·rename_i ho; exact .inr ⟨by simp [kindO,ho],hc h⟩
 ·rename_i ho
  split at h
  ·cases h
  ·rename_i ht; exact .inr ⟨by simp [kindO,ho,ht],hc h⟩
 ·rename_i ho; exact .inr ⟨by simp [kindO,ho],hc h⟩
 ·rename_i ho; exact .inr ⟨by simp [kindO,ho],hc h⟩
 ·rename_i ho; exact .inr ⟨by simp [kindO,ho],hc h⟩
 ·rename_i ho; exact .inr ⟨by simp [kindO,ho],hc h⟩
 ·rename_i ho; exact .inr ⟨by simp [kindO,ho],hc h⟩
 ·rename_i c ho
  split at h
  ·rename_i hcc; exact .inr ⟨by simp [kindO,ho,hcc],hc h⟩
  ·rename_i b hna hcb
   obtain ⟨h1,h2⟩:=hp h
   refine .inl ⟨h1,?_,h2⟩
   unfold kindO
   simp only [ho,hcb]
  ·cases h
 ·rename_i h1 h7 h8 h2 h3 h4 h5 h9 h10 h11 h12 h13 h6
  obtain ⟨g1,g2⟩:=hp h
  refine .inl ⟨g1,?_,g2⟩
  unfold kindO
  split
  ·rename_i ho; exact absurd ho (h1 _ _)
  ·rename_i ho; exact absurd ho (h7 _ _ _)
  ·rename_i ho; exact absurd ho (h8 _ _ _ _)
  ·rename_i ho; exact absurd ho (h2 _ _ _)
  ·rename_i ho; exact absurd ho (h3 _ _)
  ·rename_i ho; exact absurd ho (h4 _)
  ·rename_i ho; exact absurd ho (h5 _ _ _)
  ·rename_i ho; exact absurd ho (h9 _ _)
  ·rename_i ho; exact absurd ho (h10 _ _ _ _)
  ·rename_i ho; exact absurd ho (h11 _ _ _ _)
  ·rename_i ho; exact absurd ho (h12 _ _ _)
  ·rename_i ho; exact absurd ho (h13 _ _ _ _)
  ·rename_i ho; exact absurd ho (h6 _)
  ·rfl
theorem awpD_data {prs : List (Nat × Nat)} {K : List AV → ASt → Prop} : ∀ (os : List Oper) (i : Nat) (fr : List AV) (S : ASt) (Vs : List AV) (Ss : List ASt) (ls : List (Nat × Nat × Nat)),i ≤ ops.size → ops.toList.drop i = os → Vs.length = i → Ss.length = i + 1 → Ss.getD i [] = S → fr = frD ops (fun j=>Vs.getD j .un) (fun j=>decide (j < i)) (List.range i) fr0 →
  (∀ j,j < i → FactD P ops fr0 (fun j=>Vs.getD j .un) (fun j=>Ss.getD j []) ls j) → awpD P ops prs K os i fr S Vs Ss ls →
  ∃ (Vs' : List AV) (Ss' : List ASt) (ls' : List (Nat × Nat × Nat)),(∀ j,j < ops.size → FactD P ops fr0 (fun j=>Vs'.getD j .un) (fun j=>Ss'.getD j []) ls' j) ∧ LCp Ss' ls' prs ∧ K (frD ops (fun j=>Vs'.getD j .un) (fun j=>decide (j < ops.size)) (List.range ops.size) fr0) (Ss'.getD ops.size []) ∧ Ss'.getD 0 [] = Ss.getD 0 []
 | [],i,fr,S,Vs,Ss,ls,hile,hi,hV,hS,hSi,hf,hfact,h=>by
  obtain ⟨h1,h2⟩:=h
  have hle : ops.size ≤ i:=by
   have:=congrArg List.length hi
   simp at this
   omega
  have hcut : ∀ j,j < ops.size → j < i:=fun j hj=>by omega
  refine ⟨Vs,Ss,ls,fun j hj=>hfact j (hcut j hj),h1,?_,rfl⟩
  obtain rfl : i = ops.size:=(by omega)
  rw [← hf,hSi]; exact h2
 | o :: os,i,fr,S,Vs,Ss,ls,hile,hi,hV,hS,hSi,hf,hfact,h=>by
  have ho : ops[i]? = some o:=by
   have : (ops.toList.drop i)[0]? = some o:=by rw [hi]; rfl
   rw [List.getElem?_drop] at this
   simpa using this
  have hi' : ops.toList.drop (i + 1) = os:=by rw [← List.drop_drop,hi]; rfl
  have next : ∀ (v : AV) (S' : ASt) (ls' : List (Nat × Nat × Nat)),(∀ x ∈ ls,x ∈ ls') → FactD P ops fr0 (fun j=>(Vs ++ [v]).getD j .un) (fun j=>(Ss ++ [S']).getD j []) ls' i → awpD P ops prs K os (i + 1) (putA fr o.dst v) S' (Vs ++ [v]) (Ss ++ [S']) ls' →
    ∃ (Vs' : List AV) (Ss' : List ASt) (ls' : List (Nat × Nat × Nat)),(∀ j,j < ops.size → FactD P ops fr0 (fun j=>Vs'.getD j .un) (fun j=>Ss'.getD j []) ls' j) ∧ LCp Ss' ls' prs ∧ K (frD ops (fun j=>Vs'.getD j .un) (fun j=>decide (j < ops.size)) (List.range ops.size) fr0) (Ss'.getD ops.size []) ∧ Ss'.getD 0 [] = Ss.getD 0 []:=by
   intro v S' ls' hl hfi hrest
   have hVj : ∀ j,j < i → (Vs ++ [v]).getD j .un = Vs.getD j .un:=fun j hj=>getD_app (by omega)
   have hVi : (Vs ++ [v]).getD i .un = v:=by rw [← hV]; exact getD_new
   have hSj : ∀ j,j < i + 1 → (Ss ++ [S']).getD j [] = Ss.getD j []:=fun j hj=>getD_app (by omega)
   have hSi' : (Ss ++ [S']).getD (i + 1) [] = S':=by rw [← hS]; exact getD_new
   obtain ⟨Vs',Ss',ls'',k1,k2,k3,k4⟩:=awpD_data os (i + 1) _ S' (Vs ++ [v]) (Ss ++ [S']) ls' (size_lt ho) hi' (by simp [hV]) (by simp [hS]) hSi' (by
    rw [List.range_succ,frD_append,frD,frD]
    have e1 : frD ops (fun j=>(Vs ++ [v]).getD j .un) (fun j=>decide (j < i + 1)) (List.range i) fr0 = fr:=by
     rw [hf]
     have : ∀ (l : List Nat) (fr : List AV),(∀ j ∈ l,j < i) → frD ops (fun j=>(Vs ++ [v]).getD j .un) (fun j=>decide (j < i + 1)) l fr = frD ops (fun j=>Vs.getD j .un) (fun j=>decide (j < i)) l fr:=by
      intro l
      induction l with
      | nil=>intro fr _; rfl
      | cons j l ih =>
       intro fr hl
       have hj:=hl j (by simp)
       rw [frD,frD,hVj j hj]
       simp only [show j < i + 1 by omega,hj,decide_true,if_true]
       exact ih _ fun k hk=>hl k (List.mem_cons_of_mem _ hk)
     exact this _ _ fun j hj=>List.mem_range.1 hj
    rw [e1,hVi]
    simp [dstO,ho]) (fun j hj=>by
    by_cases hji : j = i
    ·subst hji; exact hfi
    ·exact (hfact j (by omega)).ext (fun k hk=>hVj k (by omega)) (fun k hk=>hSj k (by omega)) hl) hrest
   exact ⟨Vs',Ss',ls'',k1,k2,k3,k4.trans (hSj 0 (by omega))⟩
  have hVi : ∀ v : AV,(Vs ++ [v]).getD i .un = v:=fun v=>by rw [← hV]; exact getD_new
  have hSi0 : ∀ S' : ASt,(Ss ++ [S']).getD i [] = S:=fun S'=>by rw [getD_app (by omega)]; exact hSi
  have hSi1 : ∀ S' : ASt,(Ss ++ [S']).getD (i + 1) [] = S':=fun S'=>by rw [← hS]; exact getD_new
  have hfr : ∀ v : AV,frD ops (fun j=>(Vs ++ [v]).getD j .un) (fun j=>decide (j < i)) (List.range i) fr0 = fr:=fun v=>by
   rw [hf]
   exact frD_congr _ _ fun j hj _=>getD_app (by have:=List.mem_range.1 hj; omega)
  simp only [awpD] at h
  split at h
  ·rename_i hw
   split at h
   ·rename_i F args hc
    obtain ⟨r,S',h1,h2⟩:=h
    refine next r S' ls (fun x hx=>hx) (fun o' ho'=>?_) h2
    rw [ho] at ho'; cases ho'
    simp only [hfr,hVi,hSi0,hSi1]
    exact .inr ⟨hw,.inr (.inr ⟨kind_call hc,.inr ⟨F,args,hc,h1⟩⟩)⟩
   ·split at h
    ·rename_i v ref hl
     refine next v S (ls ++ refL i ref) (fun x hx=>List.mem_append_left _ hx) (fun o' ho'=>?_) h
     rw [ho] at ho'; cases ho'
     simp only [hfr,hVi,hSi0,hSi1]
     refine .inr ⟨hw,.inr (.inl ⟨ref,hl,kind_load hl,trivial,fun d k hr=>?_⟩)⟩
     subst hr
     exact List.mem_append_right _ (by simp [refL])
    ·rename_i hl
     split at h
     ·rename_i v S' hs
      refine next v S' ls (fun x hx=>hx) (fun o' ho'=>?_) h
      rw [ho] at ho'; cases ho'
      simp only [hfr,hVi,hSi0,hSi1]
      rcases stepF_kind hs hl with ⟨g1,g2,rfl⟩ | ⟨g1,g2⟩
      ·exact .inr ⟨hw,.inl ⟨g1,g2,rfl⟩⟩
      ·exact .inr ⟨hw,.inr (.inr ⟨g1,.inl g2⟩)⟩
     ·exact h.elim
  ·rename_i hw
   refine next .un S ls (fun x hx=>hx) (fun o' ho'=>?_) h
   rw [ho] at ho'; cases ho'
   simp only [hfr,hVi,hSi0,hSi1]
   exact .inl ⟨hw,trivial,trivial⟩
  ·exact h.elim
theorem LCl_mem {Ss : List ASt} {i m d k : Nat} : ∀ {ls : List (Nat × Nat × Nat)},LCl Ss i m ls → (i,d,k) ∈ ls → get2 (Ss.getD (m + 1) []) d k = get2 (Ss.getD m []) d k
 | (j,d',k') :: ls,⟨h1,h2⟩,h=>by
  rcases List.mem_cons.1 h with h | h
  ·cases h; exact h1 rfl
  ·exact LCl_mem h2 h
theorem LCp_mem {Ss : List ASt} {ls : List (Nat × Nat × Nat)} {i m : Nat} : ∀ {prs : List (Nat × Nat)},LCp Ss ls prs → (i,m) ∈ prs → LCl Ss i m ls
 | (i',m') :: prs,⟨h1,h2⟩,h=>by
  rcases List.mem_cons.1 h with h | h
  ·cases h; exact h1
  ·exact LCp_mem h2 h
theorem drawn_of {fr : List AV} {S : ASt} {K : List AV → ASt → Prop} (prs : List (Nat × Nat)) (hst : statD ops = true) (hprs : needLC ops = prs) (h : awpD P ops prs K ops.toList 0 fr S [] [S] []) : ∃ V Sx,Drawn P ops fr S V Sx ∧ K (frD ops V (fun _=>true) (List.range ops.size) fr) (Sx ops.size):=by
 obtain ⟨Vs,Ss,ls,h1,h2,h3,h4⟩:=awpD_data (fr0:=fr) ops.toList 0 fr S [] [S] [] (Nat.zero_le _) rfl rfl rfl rfl rfl (fun j hj=>by omega) h
 have hd : Drawn P ops fr S (fun j=>Vs.getD j .un) (fun j=>Ss.getD j []):=by
  refine ⟨hst,h4,fun i o ho=>?_⟩
  rcases h1 i (size_lt ho) o ho with h | ⟨g1,h | ⟨ref,g2,g3,g4,g5⟩ | h⟩
  ·exact .inl h
  ·exact .inr ⟨g1,.inl h⟩
  ·refine .inr ⟨g1,.inr (.inl ⟨ref,g2,g3,g4,fun d k hr m hm hc=>?_⟩)⟩
   cases ho1 : ordB ops m i with
   | true=>exact .inl rfl
   | false =>
    cases ho2 : ordB ops i m with
    | true=>exact .inr (.inl rfl)
    | false =>
     refine .inr (.inr (LCl_mem (LCp_mem h2 ?_) (g5 d k hr)))
     rw [← hprs]
     unfold needLC
     refine List.mem_flatMap.2 ⟨(o,i),List.mem_zipIdx_iff_getElem?.2 (by simpa using ho),?_⟩
     simp only [g3,beq_self_eq_true,if_true]
     have hx : ops[m]? = some ops[m]:=Array.getElem?_eq_getElem hm
     refine List.mem_map.2 ⟨(ops[m],m),List.mem_filter.2 ⟨List.mem_zipIdx_iff_getElem?.2 (by simp),?_⟩,rfl⟩
     have hk2 : kindO ops[m] = 2:=by simpa [chO,hx] using hc
     simp only [hk2,beq_self_eq_true,Bool.true_and,Bool.and_eq_true,Bool.not_eq_true']
     exact ⟨ho1,ho2⟩
  ·exact .inr ⟨g1,.inr (.inr h)⟩
 refine ⟨_,_,hd,?_⟩
 have e : frD ops (fun j=>Vs.getD j .un) (fun _=>true) (List.range ops.size) fr = frD ops (fun j=>Vs.getD j .un) (fun j=>decide (j < ops.size)) (List.range ops.size) fr:=by
  apply List.ext_getElem?
  intro t
  exact frD_agree _ _ _ rfl rfl fun j hj _=>by simp [List.mem_range.1 hj]
 rw [e]
 exact h3
theorem awp_draw {id : Nat} {fr : List AV} {S : ASt} {Q : Exit → List AV → ASt → Prop} (prs : List (Nat × Nat)) (hst : statD ops = true) (hprs : needLC ops = prs) (h : awpD P ops prs (Q .normal) ops.toList 0 fr S [] [S] []) : awp P (.region id ops true) fr S Q:=by
 obtain ⟨V,Sx,hd,hK⟩:=drawn_of prs hst hprs h
 exact hd.region hK
end
end Go.Proofs.YtfiohepfohhibaaDoor
namespace Go.Proofs.YtfiohepfohhibaaDoor
open Go.RowKit
section
variable {P : Program} {ops : Array Oper} {fr0 : List AV} {V : Nat → AV} {Sx : Nat → ASt} {S0 : ASt}
theorem Drawn.anyX (hd : Drawn P ops fr0 S0 V Sx) {opc : Array Oper} (hsize : opc.size = ops.size) (hafter : ∀ (k : Nat) (o : Oper),opc[k]? = some o → ∃ o' : Oper,ops[k]? = some o' ∧ o'.after = o.after) {X : (Nat → Bool) → Prot → Fi2 → Act → World → Prop} {Q : Exit → List AV → ASt → Prop} (hQ : Q .normal (frD ops V (fun _=>true) (List.range ops.size) fr0) (Sx ops.size)) {Pr0 : Prot} {φ0 : Fi2} {a0 : Act} {w0 : World}
  (hstep : ∀ (D D' : Nat → Bool) (i : Nat) (oc o : Oper) (fr : List AV) (S S' : ASt) (v : AV) Pr φ (a : Act) (w : World),opc[i]? = some oc → ops[i]? = some o → Closed ops D → D i = false → (∀ e ∈ o.after,Region.binds .any e = true → D e.on = true) → (∀ j,D' j = if j = i then true else D j) → RF Pr φ fr a → Rel Pr φ S w → φ ≠ [] → Stp Pr0 φ0 w0 Pr φ w → X D Pr φ a w →
   ((wantA ops o fr = some false ∧ v = .un ∧ S' = S) ∨ (wantA ops o fr = some true ∧ Stepped P o fr S v S')) → ∀ K : Act → World → Prop,
   (∀ a' w' Pr' φ',RF Pr' φ' (putA fr o.dst v) a' → Rel Pr' φ' S' w' → φ' ≠ [] → Stp Pr0 φ0 w0 Pr' φ' w' → a'.defers = a.defers → X D' Pr' φ' a' w' → K a' w') → wpOp P opc (Post Pr0 φ0 a0 w0 Q) i K a w) :
  ∀ (fuel : Nat) (listed : Array Bool) (Pr : Prot) (φ : Fi2) (a : Act) (w : World),listed.size = ops.size → (∀ j,j < ops.size → listed.getD j true = false → True) → ((List.range ops.size).filter fun j=>!listed.getD j true).length ≤ fuel → Closed ops (fun j=>listed.getD j false) →
   RF Pr φ (frD ops V (fun j=>listed.getD j false) (List.range ops.size) fr0) a → Rel Pr φ (Sc ops Sx (fun j=>listed.getD j false) (List.range ops.size) (Sx 0)) w → φ ≠ [] → Stp Pr0 φ0 w0 Pr φ w → a.defers = a0.defers → X (fun j=>listed.getD j false) Pr φ a w → wpAny P .any opc (Post Pr0 φ0 a0 w0 Q) fuel listed a w:=by
 obtain ⟨g1,g2⟩:=statD_spec hd.stat
 have hrdy : ∀ listed,Region.ready .any opc listed = Region.ready .any ops listed:=fun listed=>by
  unfold Region.ready
  rw [hsize]
  refine List.filter_congr fun j hj=>?_
  have hjo : j < opc.size:=by rw [hsize]; exact List.mem_range.1 hj
  obtain ⟨o',ho',ha⟩:=hafter j _ (Array.getElem?_eq_getElem hjo)
  rw [Array.getElem?_eq_getElem hjo,ho']
  simp only [Option.map_some,Option.getD_some,ha]
 have done : ∀ (listed : Array Bool) (Pr : Prot) (φ : Fi2) (a : Act) (w : World),listed.size = ops.size → Region.ready .any ops listed = [] → RF Pr φ (frD ops V (fun j=>listed.getD j false) (List.range ops.size) fr0) a → Rel Pr φ (Sc ops Sx (fun j=>listed.getD j false) (List.range ops.size) (Sx 0)) w → Stp Pr0 φ0 w0 Pr φ w → a.defers = a0.defers → Post Pr0 φ0 a0 w0 Q .normal a w:=by
  intro listed Pr φ a w hsz hr hf hR hs hdf
  have hall : ∀ i,i < ops.size → listed.getD i false = true:=by
   intro i
   induction i using Nat.strongRecOn with
   | _ i ih =>
    intro hi
    cases hl : listed.getD i false with
    | true=>rfl
    | false =>
     have ho : ops[i]? = some ops[i]:=Array.getElem?_eq_getElem hi
     have hmem : i ∈ Region.ready .any ops listed:=by
      refine List.mem_filter.2 ⟨List.mem_range.2 hi,?_⟩
      have hl' : listed.getD i true = false:=by
       have hil : i < listed.size:=by omega
       simp [Array.getD,hil] at hl ⊢
       exact hl
      simp only [hl',Bool.not_false,Bool.true_and,ho,Option.map_some,Option.getD_some]
      rw [Array.all_eq_true]
      intro x hx
      cases hb : Region.binds .any ops[i].after[x] with
      | false=>simp
      | true =>
       have hlt:=g1 i _ ho ops[i].after[x] (Array.getElem_mem hx) hb
       simp only [Bool.not_true,Bool.false_or]
       exact ih _ hlt (by omega)
     rw [hr] at hmem; cases hmem
  have e1 : frD ops V (fun j=>listed.getD j false) (List.range ops.size) fr0 = frD ops V (fun _=>true) (List.range ops.size) fr0:=by
   apply List.ext_getElem?
   intro t
   exact frD_agree _ _ _ rfl rfl fun j hj _=>hall j (List.mem_range.1 hj)
  have e2 : Sc ops Sx (fun j=>listed.getD j false) (List.range ops.size) (Sx 0) = Sx ops.size:=by
   rw [Sc_congr (D':=fun j=>decide (j < ops.size)) _ _ fun j hj _=>by rw [hall j (List.mem_range.1 hj)]; simp [List.mem_range.1 hj]]
   exact hd.all_to _ (Nat.le_refl _)
  exact ⟨_,_,Pr,φ,hQ,by rw [← e1]; exact hf,by rw [← e2]; exact hR,hs,hdf⟩
 intro fuel
 induction fuel with
 | zero =>
  intro listed Pr φ a w hsz _ hfuel hJ hf hR hne hs hdf hX
  have hnil : Region.ready .any ops listed = []:=by
   have h0 : (List.range ops.size).filter (fun j=>!listed.getD j true) = []:=List.eq_nil_of_length_eq_zero (by omega)
   rw [List.eq_nil_iff_forall_not_mem]
   intro j hj
   obtain ⟨h1,h2⟩:=List.mem_filter.1 hj
   simp only [Bool.and_eq_true] at h2
   have : j ∈ (List.range ops.size).filter (fun j=>!listed.getD j true):=List.mem_filter.2 ⟨h1,h2.1⟩
   rw [h0] at this; cases this
  exact ⟨by rw [hrdy]; exact hnil,done listed Pr φ a w hsz hnil hf hR hs hdf⟩
 | succ fuel ih =>
  intro listed Pr φ a w hsz _ hfuel hJ hf hR hne hs hdf hX
  refine ⟨fun hr=>done listed Pr φ a w hsz (by rw [← hrdy]; exact hr) hf hR hs hdf,fun i hi=>?_⟩
  rw [hrdy] at hi
  obtain ⟨hun,o,ho,hall⟩:=mem_ready.1 hi
  have his : i < ops.size:=size_lt ho
  have hil : i < listed.size:=by omega
  have hi0 : listed.getD i false = false:=by
   simp [Array.getD,hil] at hun ⊢
   exact hun
  have hrd : ∀ e ∈ o.after,Region.binds .any e = true → listed.getD e.on false = true:=hall
  have hD' : ∀ j,(listed.setIfInBounds i true).getD j false = if j = i then true else listed.getD j false:=fun j=>by
   by_cases hj : j = i
   ·subst hj; simp [Array.getD,hil]
   ·rw [if_neg hj]
    simp only [Array.getD_eq_getD_getElem?]
    rw [Array.getElem?_setIfInBounds_ne (by omega)]
  have hJ' : Closed ops (fun j=>(listed.setIfInBounds i true).getD j false):=fun j x hx hj e he hb=>by
   show (listed.setIfInBounds i true).getD e.on false = true
   rw [hD']
   split
   ·rfl
   ·by_cases hji : j = i
    ·subst hji; rw [ho] at hx; cases hx; exact hrd e he hb
    ·have : listed.getD j false = true:=by
      have hj' : (listed.setIfInBounds i true).getD j false = true:=hj
      rw [hD',if_neg hji] at hj'; exact hj'
     exact hJ j x hx this e he hb
  have hfuel' : ((List.range ops.size).filter fun j=>!(listed.setIfInBounds i true).getD j true).length ≤ fuel:=by
   have h1 : ((List.range ops.size).filter fun j=>!(listed.setIfInBounds i true).getD j true) = ((List.range ops.size).filter fun j=>!listed.getD j true).filter (fun j=>!(j == i)):=by
    rw [List.filter_filter]
    refine List.filter_congr fun j hj=>?_
    by_cases hji : j = i
    ·subst hji; simp [Array.getD,hil]
    ·simp only [Array.getD_eq_getD_getElem?]
     rw [Array.getElem?_setIfInBounds_ne (by omega)]
     simp [hji]
   have h2 : i ∈ (List.range ops.size).filter fun j=>!listed.getD j true:=List.mem_filter.2 ⟨List.mem_range.2 his,by rw [hun]; rfl⟩
   have h3 : (((List.range ops.size).filter fun j=>!listed.getD j true).filter (fun j=>!(j == i))).length < ((List.range ops.size).filter fun j=>!listed.getD j true).length:=by
    refine List.length_filter_lt_length_iff_exists.2 ⟨i,h2,by simp⟩
   rw [h1]; omega
  have hlooks:=hd.looks (D:=fun j=>listed.getD j false) hJ ho hi0 hrd
  have hev:=looks_ev hlooks
  have hframe:=hd.put (D:=fun j=>listed.getD j false) (D':=fun j=>(listed.setIfInBounds i true).getD j false) hJ ho hi0 hrd hD'
  have hquiet : kindO o ≠ 2 → Sc ops Sx (fun j=>(listed.setIfInBounds i true).getD j false) (List.range ops.size) (Sx 0) = Sc ops Sx (fun j=>listed.getD j false) (List.range ops.size) (Sx 0):=fun hk=>Sc_congr _ _ fun j _ hc=>by
   rw [hD',if_neg (fun hji=>?_)]
   subst hji
   simp [chO,ho] at hc
   exact hk hc
  have hic : i < opc.size:=by rw [hsize]; exact his
  have hoc : opc[i]? = some opc[i]:=Array.getElem?_eq_getElem hic
  have go : ∀ (S S' : ASt),Rel Pr φ S w → Sc ops Sx (fun j=>(listed.setIfInBounds i true).getD j false) (List.range ops.size) (Sx 0) = S' → ((wantA ops o (frD ops V (fun j=>listed.getD j false) (List.range ops.size) fr0) = some false ∧ V i = .un ∧ S' = S) ∨ (wantA ops o (frD ops V (fun j=>listed.getD j false) (List.range ops.size) fr0) = some true ∧ Stepped P o (frD ops V (fun j=>listed.getD j false) (List.range ops.size) fr0) S (V i) S')) → wpOp P opc (Post Pr0 φ0 a0 w0 Q) i (wpAny P .any opc (Post Pr0 φ0 a0 w0 Q) fuel (listed.setIfInBounds i true)) a w:=by
   intro S S' hRS hS' hst
   refine hstep (fun j=>listed.getD j false) (fun j=>(listed.setIfInBounds i true).getD j false) i _ o _ S S' (V i) Pr φ a w hoc ho hJ hi0 hrd hD' hf hRS hne hs hX hst _ fun a' w' Pr' φ' k1 k2 k3 k4 k5 k6=>?_
   refine ih (listed.setIfInBounds i true) Pr' φ' _ w' (by simpa using hsz) (fun _ _ _=>trivial) hfuel' hJ' ?_ ?_ k3 k4 (k5.trans hdf) k6
   ·rw [hframe]; exact k1
   ·rw [hS']; exact k2
  rcases hd.step i o ho with ⟨hw,hV,hSS⟩ | ⟨hw,hst⟩
  ·rw [wantA_congr hlooks] at hw
   by_cases hk : kindO o = 2
   ·have hSi:=hd.chain (D:=fun j=>listed.getD j false) hJ ho hi0 hrd hk
    rw [hSi] at hR
    exact go _ _ hR (hd.chain_next (D:=fun j=>listed.getD j false) hJ ho hi0 hrd hk hD') (.inl ⟨hw,hV,hSS⟩)
   ·exact go _ _ hR (hquiet hk) (.inl ⟨hw,hV,rfl⟩)
  ·rw [wantA_congr hlooks] at hw
   rcases hst with ⟨h1,hk,_⟩ | ⟨ref,h1,hk,_,hm⟩ | ⟨hk,h1⟩
   ·rw [evP_congr hev] at h1
    exact go _ _ hR (hquiet (by omega)) (.inr ⟨hw,.quiet h1⟩)
   ·have h2:=evL_congr hev h1 (S':=Sc ops Sx (fun j=>listed.getD j false) (List.range ops.size) (Sx 0)) fun d k hr=>hd.kept (D:=fun j=>listed.getD j false) hJ ho hi0 hrd (hm d k hr)
    exact go _ _ hR (hquiet (by omega)) (.inr ⟨hw,.load h2⟩)
   ·have hSi:=hd.chain (D:=fun j=>listed.getD j false) hJ ho hi0 hrd hk
    have hSn:=hd.chain_next (D:=fun j=>listed.getD j false) hJ ho hi0 hrd hk hD'
    rw [hSi] at hR
    rcases h1 with ⟨lg,h1⟩ | ⟨F,args,h1,h2⟩
    ·rw [evC_congr hev] at h1
     exact go _ _ hR hSn (.inr ⟨hw,.chain h1⟩)
    ·rw [callA_congr hev] at h1
     exact go _ _ hR hSn (.inr ⟨hw,callA_ok h1 h2⟩)
end
end Go.Proofs.YtfiohepfohhibaaDoor
namespace Go.Proofs.YtfiohepfohhibaaDoor
open Go.RowKit
def virtO (L : List (Nat × Nat × Nat)) (k : Nat) (o : Oper) : Oper :=
 match L.find? (fun p=>p.1 == k) with
 | some _=>{ o with op:=.move (.global 0) }
 | none =>
  match L.find? (fun p=>p.2.1 == k),o.op with
  | some p,.store t _ v=>{ o with dst:=some p.2.2,op:=.box t v }
  | _,_=>o
def virtL (L : List (Nat × Nat × Nat)) : Nat → List Oper → List Oper
 | _,[]=>[]
 | k,o :: os=>virtO L k o :: virtL L (k + 1) os
theorem virtL_get (L : List (Nat × Nat × Nat)) : ∀ (os : List Oper) (k i : Nat),(virtL L k os)[i]? = (os[i]?).map (virtO L (k + i))
 | [],k,i=>by simp [virtL]
 | o :: os,k,0=>by simp [virtL]
 | o :: os,k,i + 1=>by
  simp only [virtL,List.getElem?_cons_succ]
  rw [virtL_get L os (k + 1) i]
  congr 2; omega
theorem virtL_len (L : List (Nat × Nat × Nat)) : ∀ (os : List Oper) (k : Nat),(virtL L k os).length = os.length
 | [],k=>rfl
 | o :: os,k=>by simp [virtL,virtL_len L os (k + 1)]
def virt (L : List (Nat × Nat × Nat)) (ops : Array Oper) : Array Oper:=(virtL L 0 ops.toList).toArray
theorem virt_get (L : List (Nat × Nat × Nat)) (ops : Array Oper) (i : Nat) : (virt L ops)[i]? = (ops[i]?).map (virtO L i):=by
 unfold virt
 rw [List.getElem?_toArray,virtL_get,Nat.zero_add,Array.getElem?_toList]
def late1 (P : Program) (ops : Array Oper) (p : Nat × Nat × Nat) : Bool :=
 match ops[p.1]?,ops[p.2.1]? with
 | some x,some y =>
  (match x.op,y.op with
  | .alloc t,.store t' (.tmp d) v=>t' == t && d == p.2.2 && (match v with | .tmp d'=>d' != p.2.2 | _=>true) && (match zeroA P t with | some zs=>zs.length == P.cellsOf t && P.cellsOf t != 0 | none=>false)
  | _,_=>false) && (x.dst == some p.2.2 && x.guard.isNone && y.guard.isNone && y.dst.isNone && y.after.toList.any (fun e=>Region.binds .any e && e.on == p.1))
 | _,_=>false
def lateOK (P : Program) (ops : Array Oper) (L : List (Nat × Nat × Nat)) : Bool :=
 (L.all (late1 P ops)) &&
 (ops.toList.zipIdx.all fun q=>L.all fun p=>(q.2 == p.1 || q.2 == p.2.1 || q.1.dst != some p.2.2) && (match q.1.guard with | some g=>g.1 != p.1 && g.1 != p.2.1 | none=>true)) &&
 (L.all fun p=>L.all fun q=>(p == q || (p.1 != q.1 && p.2.1 != q.2.1 && p.2.2 != q.2.2)) && p.1 != q.2.1)
section
variable {P : Program} {ops : Array Oper} {L : List (Nat × Nat × Nat)}
theorem late1_spec {p : Nat × Nat × Nat} (h : late1 P ops p = true) : ∃ x y t v zs,ops[p.1]? = some x ∧ ops[p.2.1]? = some y ∧ x.op = .alloc t ∧ y.op = .store t (.tmp p.2.2) v ∧ v ≠ .tmp p.2.2 ∧ zeroA P t = some zs ∧ zs.length = P.cellsOf t ∧ P.cellsOf t ≠ 0 ∧
  x.dst = some p.2.2 ∧ x.guard = none ∧ y.guard = none ∧ y.dst = none ∧ ∃ e ∈ y.after,Region.binds .any e = true ∧ e.on = p.1:=by
 unfold late1 at h
 split at h
 case h_2=>cases h
 rename_i x y hx hy
 simp only [Bool.and_eq_true,beq_iff_eq,Option.isNone_iff_eq_none,List.any_eq_true] at h
 obtain ⟨h1,⟨⟨⟨h2,h3⟩,h4⟩,h5⟩,e,h6,h7,h8⟩:=h
 split at h1
 case h_2=>cases h1
 rename_i t t' d v ho1 ho2
 simp only [Bool.and_eq_true,beq_iff_eq] at h1
 obtain ⟨⟨⟨rfl,rfl⟩,h9⟩,h10⟩:=h1
 split at h10
 case h_2=>cases h10
 rename_i zs hz
 simp only [Bool.and_eq_true,beq_iff_eq,bne_iff_ne,ne_eq] at h10
 refine ⟨x,y,t',v,zs,hx,hy,ho1,ho2,fun hv=>?_,hz,h10.1,h10.2,h2,h3,h4,h5,e,by simpa using h6,h7,h8⟩
 subst hv
 simp at h9
theorem lateOK_spec (h : lateOK P ops L = true) : (∀ p ∈ L,late1 P ops p = true) ∧ (∀ p ∈ L,∀ (k : Nat) (o : Oper),ops[k]? = some o → k ≠ p.1 → k ≠ p.2.1 → o.dst ≠ some p.2.2) ∧ (∀ p ∈ L,∀ (k : Nat) (o : Oper) (g : Nat) (b : Bool),ops[k]? = some o → o.guard = some (g,b) → g ≠ p.1 ∧ g ≠ p.2.1) ∧
  (∀ p ∈ L,∀ q ∈ L,p ≠ q → p.1 ≠ q.1 ∧ p.2.1 ≠ q.2.1 ∧ p.2.2 ≠ q.2.2) ∧ ∀ p ∈ L,∀ q ∈ L,p.1 ≠ q.2.1:=by
 unfold lateOK at h
 simp only [Bool.and_eq_true,List.all_eq_true,Bool.or_eq_true,beq_iff_eq,bne_iff_ne,ne_eq] at h
 obtain ⟨⟨h1,h2⟩,h3⟩:=h
 have hget : ∀ (k : Nat) (o : Oper),ops[k]? = some o → (o,k) ∈ ops.toList.zipIdx:=fun k o ho=>List.mem_zipIdx_iff_getElem?.2 (by simpa using ho)
 refine ⟨h1,fun p hp k o ho ha hb=>?_,fun p hp k o g b ho hg=>?_,fun p hp q hq hne=>?_,fun p hp q hq=>(h3 p hp q hq).2⟩
 ·rcases (h2 _ (hget k o ho) p hp).1 with (h | h) | h
  ·exact absurd h ha
  ·exact absurd h hb
  ·exact h
 ·have:=(h2 _ (hget k o ho) p hp).2
  simp only [hg,Bool.and_eq_true,bne_iff_ne,ne_eq] at this
  exact this
 ·rcases (h3 p hp q hq).1 with h | h
  ·exact absurd h hne
  ·exact ⟨h.1.1,h.1.2,h.2⟩
theorem virtO_fst {p : Nat × Nat × Nat} (hp : p ∈ L) (o : Oper) : virtO L p.1 o = { o with op:=.move (.global 0) }:=by
 unfold virtO
 cases h : L.find? (fun q=>q.1 == p.1) with
 | some q=>rfl
 | none=>rw [List.find?_eq_none] at h; exact absurd (by simp) (h p hp)
theorem virtO_snd (hok : lateOK P ops L = true) {p : Nat × Nat × Nat} (hp : p ∈ L) {o : Oper} {t : TypeId} {x v : Operand} (ho : o.op = .store t x v) : virtO L p.2.1 o = { o with dst:=some p.2.2,op:=.box t v }:=by
 obtain ⟨_,_,_,h4,h5⟩:=lateOK_spec hok
 unfold virtO
 cases h : L.find? (fun q=>q.1 == p.2.1) with
 | some q =>
  have h6:=List.find?_some h
  exact absurd (by simpa using h6) (h5 q (List.mem_of_find?_eq_some h) p hp)
 | none =>
  cases h' : L.find? (fun q=>q.2.1 == p.2.1) with
  | none=>rw [List.find?_eq_none] at h'; exact absurd (by simp) (h' p hp)
  | some q =>
   have h6:=List.find?_some h'
   have : q = p:=Classical.byContradiction fun hne=>(h4 q (List.mem_of_find?_eq_some h') p hp hne).2.1 (by simpa using h6)
   subst this
   simp only [ho]
theorem virtO_other {k : Nat} (h : ∀ p ∈ L,p.1 ≠ k ∧ p.2.1 ≠ k) (o : Oper) : virtO L k o = o:=by
 unfold virtO
 rw [List.find?_eq_none.2 fun p hp=>by simpa using (h p hp).1,List.find?_eq_none.2 fun p hp=>by simpa using (h p hp).2]
theorem virtO_after (k : Nat) (o : Oper) : (virtO L k o).after = o.after:=by
 unfold virtO
 split
 ·rfl
 ·split <;> rfl
end
def Waits (P : Program) (ops : Array Oper) (n0 : Nat) (p : Nat × Nat × Nat) (Pr : Prot) (φ : Fi2) (a : Act) (w : World) (g : Nat) : Prop :=
 ∃ x t xs,ops[p.1]? = some x ∧ x.op = .alloc t ∧ a.tmps[p.2.2]? = some (.pointer (some ⟨g,0,none⟩)) ∧ w.heap[g]? = some (.cells xs t (0,0)) ∧ xs.size = P.cellsOf t ∧ n0 ≤ g ∧ (∀ d i e,get2 φ d i = some e → e.blk ≠ some g) ∧ ∀ o,Pr g o = none
theorem heap_lt {w : World} {g : Nat} {b : Obj} (h : w.heap[g]? = some b) : g < w.heap.size:=(Array.getElem?_eq_some_iff.1 h).1
theorem Waits.stp {P : Program} {ops : Array Oper} {n0 : Nat} {p : Nat × Nat × Nat} {Pr Pr' : Prot} {φ φ' : Fi2} {a a' : Act} {w w' : World} {g : Nat} (h : Waits P ops n0 p Pr φ a w g) (s : Stp Pr φ w Pr' φ' w') (ht : a'.tmps[p.2.2]? = a.tmps[p.2.2]?) : Waits P ops n0 p Pr' φ' a' w' g:=by
 obtain ⟨x,t,xs,h1,h2,h3,h4,h5,h6,h7,h8⟩:=h
 have hlt:=heap_lt h4
 refine ⟨x,t,xs,h1,h2,by rw [ht]; exact h3,by rw [s.fr.block g hlt h7]; exact h4,h5,h6,fun d i e he hb=>?_,fun o=>?_⟩
 ·rcases s.fresh d i e g he hb with ⟨d0,i0,e0,h9,h10⟩ | h9
  ·exact h7 d0 i0 e0 h9 h10
  ·omega
 ·cases h9 : Pr' g o with
  | none=>rfl
  | some v =>
   rcases s.pn g o (h8 o) (by rw [h9]; simp) with ⟨d,i,e,he,hb⟩ | h10
   ·exact absurd hb (h7 d i e he)
   ·omega
theorem rel_extra {Pr : Prot} {φ : Fi2} {S : ASt} {w : World} (h : Rel Pr φ S w) (xs : Array Value) (t : TypeId) : Stp Pr φ w Pr φ (w.alloc (.cells xs t (0,0))) ∧ Rel Pr φ S (w.alloc (.cells xs t (0,0))):=by
 refine ⟨⟨Prot.le_refl Pr,Fle.refl φ,fun d i e g he hg=>.inl ⟨d,i,e,he,hg⟩,⟨rfl,rfl,rfl,by simp,fun g hg _=>Below.heap_alloc _ _ _ hg⟩,rfl,fun g o h k=>absurd h k⟩,⟨fun d i o ho=>?_,h.dis,fun d i e g h1 h2=>?_,fun b o v hv=>?_,h.tb.of (Prot.le_refl _) (fun g hg _=>Below.heap_alloc _ _ _ hg) (fun d i e g he hg=>.inl ⟨d,i,e,he,hg⟩),h.shape⟩⟩
 ·obtain ⟨e,he,hr⟩:=h.obj d i o ho
  exact ⟨e,he,hr.keep (Prot.le_refl Pr) (Fle.refl _) fun g hg=>⟨Below.heap_alloc _ _ _ (h.lt d i e g he hg),fun _ h=>h⟩⟩
 ·have:=h.lt d i e g h1 h2; simp; omega
 ·have:=h.pr b o v hv
  rw [World.cell?_alloc_lt _ _ _ (lt_of_cell this)]; exact this
theorem rel_adopt {Pr : Prot} {φ : Fi2} {S : ASt} {w : World} (h : Rel Pr φ S w) (hne : φ ≠ []) {g : Nat} {xs : Array Value} {t : TypeId} (hg : w.heap[g]? = some (.cells xs t (0,0))) (hn : ∀ d i e,get2 φ d i = some e → e.blk ≠ some g) (hp : ∀ o,Pr g o = none) :
  Rel Pr (add2 ⟨false,some g,0,0,0⟩ φ) (add2 (.cells (List.replicate xs.size .any) t) S) w ∧ RA Pr (add2 ⟨false,some g,0,0,0⟩ φ) (.ptr 0 (top S) 0) (.pointer (some ⟨g,0,none⟩)):=by
 have ht : top φ = top S:=top_map h.shape
 have hnew : get2 (add2 ⟨false,some g,0,0,0⟩ φ) 0 (top S) = some ⟨false,some g,0,0,0⟩:=by rw [← ht]; exact get2_add_new _ _
 refine ⟨⟨fun d i o ho=>?_,fun d i e d' i' e' g' h1 h2 h3 h4=>?_,fun d i e g' h1 h2=>?_,h.pr,fun gt cs hm=>⟨(h.tb gt cs hm).1,(h.tb gt cs hm).2.1,(h.tb gt cs hm).2.2.1,fun d i e he=>by
  rw [get2_add] at he
  split at he
  ·cases he
   exact fun h'=>h.tb.ne hp gt cs hm (by cases h'; rfl)
  ·exact (h.tb gt cs hm).2.2.2 d i e he⟩,add_map h.shape _ _⟩,.ptr hnew rfl rfl⟩
 ·rw [get2_add] at ho
  split at ho
  ·rename_i hd
   obtain ⟨rfl,rfl⟩:=hd
   cases ho
   refine ⟨_,hnew,rfl,g,xs,rfl,hg,by simp,fun j c x hc hx=>?_,hp⟩
   rw [List.getElem?_replicate] at hc
   split at hc
   ·cases hc; exact .any x
   ·cases hc
  ·obtain ⟨e,he,hr⟩:=h.obj d i o ho
   exact ⟨e,get2_add_old _ he,hr.keep (Prot.le_refl Pr) ((ent_le_add _ _).drop d) fun g hg=>⟨rfl,fun _ h=>h⟩⟩
 ·rw [get2_add] at h1 h2
  split at h1
  ·rename_i hd
   cases h1; cases h3
   split at h2
   ·rename_i hd'
    exact ⟨hd.1.trans hd'.1.symm,hd.2.trans hd'.2.symm⟩
   ·exact absurd h4 (hn _ _ _ h2)
  ·split at h2
   ·cases h2; cases h4
    exact absurd h3 (hn _ _ _ h1)
   ·exact h.dis d i e d' i' e' g' h1 h2 h3 h4
 ·rw [get2_add] at h1
  split at h1
  ·cases h1; cases h2; exact heap_lt hg
  ·exact h.lt d i e g' h1 h2
theorem down0 : ∀ (v : AV),v.down 0 = some v:=by
 have key : ∀ n,(∀ v : AV,SizeOf.sizeOf v < n → v.down 0 = some v) ∧ ∀ l : List AV,SizeOf.sizeOf l < n → AV.downs 0 l = some l:=by
  intro n
  induction n with
  | zero=>exact ⟨fun v h=>by omega,fun l h=>by omega⟩
  | succ n ih =>
   refine ⟨fun v h=>?_,fun l h=>?_⟩
   ·cases v with
    | agg cs=>simp only [AV.down]; rw [ih.2 cs (by simp at h; omega)]; rfl
    | tup cs=>simp only [AV.down]; rw [ih.2 cs (by simp at h; omega)]; rfl
    | bx cs=>simp only [AV.down]; rw [ih.2 cs (by simp at h; omega)]; rfl
    | fn f a b=>simp only [AV.down]; rw [ih.2 a (by simp at h; omega),ih.2 b (by simp at h; omega)]; rfl
    | _=>simp [AV.down]
   ·cases l with
    | nil=>rfl
    | cons c cs=>simp only [AV.downs]; rw [ih.1 c (by simp at h; omega),ih.2 cs (by simp at h; omega)]; rfl
 exact fun v=>(key (SizeOf.sizeOf v + 1)).1 v (by omega)
theorem downAll0 : ∀ (l : List AV),downAll 0 l = some l
 | []=>rfl
 | c :: cs=>by simp only [downAll]; rw [down0,downAll0 cs]
theorem setAll_to : ∀ (vs cs : List AV) (off : Nat),off + vs.length = cs.length → setAll cs off vs = cs.take off ++ vs
 | [],cs,off,h=>by simp only [setAll,List.append_nil]; rw [List.take_of_length_le (by simp at h; omega)]
 | v :: vs,cs,off,h=>by
  simp only [List.length_cons] at h
  rw [setAll,setAll_to vs _ _ (by simp; omega)]
  rw [List.take_add_one,List.take_set_of_le (Nat.le_refl _),List.getElem?_set_self (by omega)]
  simp
theorem set2_add {α : Type} (S : List (List α)) (o o' : α) : set2 (add2 o S) 0 (top S) o' = add2 o' S:=by
 cases S with
 | nil=>simp [set2,add2,top]
 | cons L R=>simp [set2,add2,top]
section
variable {P : Program} {ops : Array Oper} {L : List (Nat × Nat × Nat)} {fr0 : List AV} {V : Nat → AV} {Sx : Nat → ASt} {S0 : ASt}
def WaitsX (P : Program) (ops : Array Oper) (L : List (Nat × Nat × Nat)) (n0 : Nat) (D : Nat → Bool) (Pr : Prot) (φ : Fi2) (a : Act) (w : World) : Prop :=
 (∀ p ∈ L,p.2.2 < a.tmps.size) ∧ ∃ γ : Nat → Nat,(∀ p ∈ L,D p.1 = true → D p.2.1 = false → Waits P ops n0 p Pr φ a w (γ p.1)) ∧ ∀ p ∈ L,∀ q ∈ L,D p.1 = true → D p.2.1 = false → D q.1 = true → D q.2.1 = false → p ≠ q → γ p.1 ≠ γ q.1
theorem put_size (a : Act) (dst : Option Nat) (x : Value) : (a.put dst x).tmps.size = a.tmps.size:=by cases dst <;> simp [Act.put]
theorem put_get {a : Act} {d t : Nat} {x : Value} (h : d ≠ t) : (a.put (some d) x).tmps[t]? = a.tmps[t]?:=by
 simp only [Act.put]
 rw [Array.getElem?_setIfInBounds_ne h]
theorem put_get' {a : Act} {dst : Option Nat} {t : Nat} {x : Value} (h : dst ≠ some t) : (a.put dst x).tmps[t]? = a.tmps[t]?:=by
 cases dst with
 | none=>rfl
 | some d=>exact put_get fun e=>h (by rw [e])
theorem stp_adopt {Pr0 Pr : Prot} {φ0 φ : Fi2} {w0 w : World} (hs : Stp Pr0 φ0 w0 Pr φ w) (hne : φ ≠ []) {g : Nat} (hg : w0.heap.size ≤ g) : Stp Pr0 φ0 w0 Pr (add2 ⟨false,some g,0,0,0⟩ φ) w:=by
 refine ⟨hs.pl,hs.fl.trans (ent_le_add _ _),fun d i e g' he hb=>?_,hs.fr,(add_len _ _ hne).trans hs.len,hs.pn⟩
 rw [get2_add] at he
 split at he
 ·cases he; cases hb; exact .inr hg
 ·exact hs.fresh d i e g' he hb
theorem Waits.adopt {P : Program} {n0 : Nat} {p : Nat × Nat × Nat} {Pr : Prot} {φ : Fi2} {a : Act} {w : World} {g g' : Nat} (h : Waits P ops n0 p Pr φ a w g) (hne : g ≠ g') : Waits P ops n0 p Pr (add2 ⟨false,some g',0,0,0⟩ φ) a w g:=by
 obtain ⟨x,t,xs,h1,h2,h3,h4,h5,h6,h7,h8⟩:=h
 refine ⟨x,t,xs,h1,h2,h3,h4,h5,h6,fun d i e he hb=>?_,h8⟩
 rw [get2_add] at he
 split at he
 ·cases he; cases hb; exact hne rfl
 ·exact h7 d i e he hb
theorem Drawn.late (hok : lateOK P ops L = true) (hl : ∀ p ∈ L,p.2.2 < fr0.length) (hd : Drawn P (virt L ops) fr0 S0 V Sx) {Q : Exit → List AV → ASt → Prop} (hQ : Q .normal (frD (virt L ops) V (fun _=>true) (List.range (virt L ops).size) fr0) (Sx (virt L ops).size)) : ARegion P ops fr0 S0 Q:=by
 intro Pr0 φ0 a0 w0 Pr φ a w hf hR hne hs hdf
 obtain ⟨k1,k2,k3,k4,k5⟩:=lateOK_spec hok
 have hsize : ops.size = (virt L ops).size:=by simp [virt,virtL_len]
 have e0 : ∀ j,(Array.replicate (virt L ops).size false).getD j false = false:=fun j=>by
  simp only [Array.getD_eq_getD_getElem?,Array.getElem?_replicate]
  split <;> rfl
 have e1 : ∀ (l : List Nat) (fr : List AV),frD (virt L ops) V (fun j=>(Array.replicate (virt L ops).size false).getD j false) l fr = fr:=by
  intro l
  induction l with
  | nil=>intro fr; rfl
  | cons j l ih=>intro fr; rw [frD,e0,if_neg (by simp),ih]
 have hX0 : WaitsX P ops L w0.heap.size (fun j=>(Array.replicate (virt L ops).size false).getD j false) Pr φ a w:=by
  refine ⟨fun p hp=>by rw [← hf.len]; exact hl p hp,fun _=>0,fun p hp h1=>?_,fun p hp q hq h1=>?_⟩
  ·have h1' : (Array.replicate (virt L ops).size false).getD p.1 false = true:=h1
   rw [e0] at h1'; cases h1'
  ·have h1' : (Array.replicate (virt L ops).size false).getD p.1 false = true:=h1
   rw [e0] at h1'; cases h1'
 rw [hsize]
 refine hd.anyX hsize (fun k o ho=>⟨virtO L k o,by rw [virt_get,ho]; rfl,virtO_after _ _⟩) (X:=WaitsX P ops L w0.heap.size) hQ (Pr0:=Pr0) (φ0:=φ0) (a0:=a0) (w0:=w0) ?_ (virt L ops).size _ Pr φ a w (by simp) (fun _ _ _=>trivial) (Nat.le_trans (List.length_filter_le _ _) (by simp)) (fun i o ho hi=>by
  have hi' : (Array.replicate (virt L ops).size false).getD i false = true:=hi
  rw [e0] at hi'; cases hi') (by rw [e1]; exact hf) (by rw [hd.tail _ _ fun j _ _=>e0 j,hd.start]; exact hR) hne hs hdf hX0
 clear hX0 hs hne hR hf hdf e1 e0 a w Pr φ
 intro D D' i oc o fr S S' v Pr φ a w hoc ho hJ hi hrd hD' hf hR hne hs hX hst K hK
 have ho' : o = virtO L i oc:=by
  have:=virt_get L ops i
  rw [ho,hoc] at this
  simpa using this
 obtain ⟨hsz,γ,hγ,hinj⟩:=hX
 have hback : ∀ q ∈ L,q.1 ≠ i → D' q.1 = true → D' q.2.1 = false → D q.1 = true ∧ D q.2.1 = false:=fun q hq hne h1 h2=>by
  rw [hD',if_neg hne] at h1
  rw [hD'] at h2
  split at h2
  ·cases h2
  ·exact ⟨h1,h2⟩
 unfold wpOp
 rw [hoc]
 simp only
 by_cases hA : ∃ p ∈ L,p.1 = i
 ·-- a block is made
  obtain ⟨p,hp,rfl⟩:=hA
  obtain ⟨x,y,t,u,zs,hx,hy,hxo,hyo,hu,hz,hzl,ht0,hxd,hxg,hyg,hyd,_⟩:=late1_spec (k1 p hp)
  rw [hoc] at hx; cases hx
  rw [virtO_fst hp] at ho'
  subst ho'
  have hv : v = .any ∧ S' = S:=by
   rcases hst with ⟨hw,_,_⟩ | ⟨_,hst⟩
   ·simp [wantA,hxg] at hw
   ·cases hst with
    | quiet h=>simp [evP,evA] at h; exact ⟨h.symm,rfl⟩
    | load h=>simp [evL] at h
    | chain h=>simp [evC] at h
    | call h=>cases h
  obtain ⟨rfl,rfl⟩:=hv
  have hwt : Region.wanted oc (yielded ops a.tmps) = true:=by simp [Region.wanted,hxg]
  simp only [hwt,if_true]
  left
  obtain ⟨z,hz1,hz2,hz3⟩:=zeroA_ok hz
  have hrun : (execOp a.eval oc).run P w = .ok (.value (.pointer (some ⟨w.heap.size,0,none⟩))) (w.alloc (.cells zs.toArray t (0,0))):=by simp [execOp,hxo,Instr.alloc,hz1,newVar_run,hz2]
  simp only [Oper.wp,hrun,Oper.upon]
  obtain ⟨s1,r1⟩:=rel_extra hR zs.toArray t
  have hlt : ∀ q ∈ L,D q.1 = true → D q.2.1 = false → γ q.1 < w.heap.size:=fun q hq h1 h2=>by
   obtain ⟨_,_,_,_,_,_,h,_⟩:=hγ q hq h1 h2
   exact heap_lt h
  refine hK _ _ Pr φ ((hf.put oc.dst (v:=.any) (.any _))) r1 hne (hs.trans s1) (put_defers _ _ _) ⟨fun q hq=>by rw [put_size]; exact hsz q hq,fun k=>if k = p.1 then w.heap.size else γ k,fun q hq h1 h2=>?_,fun q hq r hr h1 h2 h3 h4 hqr=>?_⟩
  ·by_cases hqp : q = p
   ·subst hqp
    simp only [if_true]
    refine ⟨oc,t,zs.toArray,hoc,hxo,?_,blk_new _ _,by simpa using hzl,hs.fr.size,fun d i e he hb=>absurd (hR.lt d i e _ he hb) (Nat.lt_irrefl _),fun o=>?_⟩
    ·rw [hxd]
     simp only [Act.put]
     rw [Array.getElem?_setIfInBounds_self_of_lt (hsz q hq)]
    ·cases hv : Pr w.heap.size o with
     | none=>rfl
     | some v=>exact absurd (pr_lt hR hv) (Nat.lt_irrefl _)
   ·have hne1:=(k4 q hq p hp hqp)
    simp only [if_neg hne1.1]
    obtain ⟨h3,h4⟩:=hback q hq hne1.1 h1 h2
    exact (hγ q hq h3 h4).stp s1 (put_get' (by rw [hxd]; intro e; exact hne1.2.2 (by simpa using e.symm)))
  ·by_cases hqp : q = p
   ·subst hqp
    have hne2:=(k4 r hr q hq (Ne.symm hqr)).1
    simp only [if_true,if_neg hne2]
    obtain ⟨h5,h6⟩:=hback r hr hne2 h3 h4
    have:=hlt r hr h5 h6
    omega
   ·have hne1:=(k4 q hq p hp hqp).1
    obtain ⟨h5,h6⟩:=hback q hq hne1 h1 h2
    simp only [if_neg hne1]
    by_cases hrp : r = p
    ·subst hrp
     simp only [if_true]
     have:=hlt q hq h5 h6
     omega
    ·have hne2:=(k4 r hr p hp hrp).1
     obtain ⟨h7,h8⟩:=hback r hr hne2 h3 h4
     simp only [if_neg hne2]
     exact hinj q hq r hr h5 h6 h7 h8 hqr
 by_cases hB : ∃ p ∈ L,p.2.1 = i
 ·-- a block is filled
  obtain ⟨p,hp,rfl⟩:=hB
  obtain ⟨x,y,t,u,zs,hx,hy,hxo,hyo,hu,hz,hzl,ht0,hxd,hxg,hyg,hyd,e,he1,he2,he3⟩:=late1_spec (k1 p hp)
  rw [hoc] at hy; cases hy
  rw [virtO_snd hok hp hyo] at ho'
  subst ho'
  have hD1 : D p.1 = true:=by rw [← he3]; exact hrd e he1 he2
  have hw:=hγ p hp hD1 hi
  obtain ⟨x',t',xs,g1,g2,g3,g4,g5,g6,g7,g8⟩:=hw
  rw [hx] at g1; cases g1
  rw [hxo] at g2; cases g2
  obtain ⟨r1,ra1⟩:=rel_adopt hR hne g4 g7 g8
  have hrunB : (execOp a.eval { oc with dst:=some p.2.2,op:=.box t u }).run P w = .ok (.value (.pointer (some ⟨w.heap.size,0,none⟩))) (w.alloc (.cells (a.eval u).cells t (0,0))):=by simp [execOp,Instr.box,newVar_run]
  have hst' : ∃ cs,cellsAV (evA fr u) = some cs ∧ cs.length = P.cellsOf t ∧ v = .ptr 0 (top S) 0 ∧ S' = add2 (.cells cs t) S:=by
   rcases hst with ⟨hw,_,_⟩ | ⟨_,hst⟩
   ·simp [wantA,hyg] at hw
   ·cases hst with
    | quiet h =>
     obtain ⟨x1,_,h2⟩:=evP_ok (P:=P) hf h
     have h3:=h2 w
     rw [hrunB] at h3
     injection h3 with h3a h4
     have h5:=congrArg (fun w=>w.heap.size) h4
     simp at h5
    | load h=>simp [evL] at h
    | chain h =>
     simp only [evC] at h
     obtain ⟨cs,hc,h⟩:=Option.bind_eq_some_iff.1 h
     split at h
     ·rename_i hcl
      cases h
      exact ⟨cs,hc,hcl,rfl,rfl⟩
     ·cases h
    | call h=>cases h
  obtain ⟨cs,hc,hcl,rfl,rfl⟩:=hst'
  have hwt : Region.wanted oc (yielded ops a.tmps) = true:=by simp [Region.wanted,hyg]
  simp only [hwt,if_true]
  left
  have hne1 : add2 (⟨false,some (γ p.1),0,0,0⟩ : Ent) φ ≠ []:=by cases φ <;> simp [add2]
  have hfl : fr.length = a.tmps.size:=hf.len
  have hdl : p.2.2 < fr.length:=by rw [hfl]; exact hsz p hp
  have hf1 : RF Pr (add2 ⟨false,some (γ p.1),0,0,0⟩ φ) (fr.set p.2.2 (.ptr 0 (top S) 0)) a:=by
   refine ⟨by simpa using hfl,fun t' c x' hc hx'=>?_⟩
   by_cases htt : t' = p.2.2
   ·subst htt
    rw [List.getElem?_set_self hdl] at hc
    cases hc
    rw [g3] at hx'
    cases hx'
    exact ra1
   ·rw [List.getElem?_set_ne (Ne.symm htt)] at hc
    exact (hf.at_ t' c x' hc hx').mono (Prot.le_refl Pr) (ent_le_add _ _)
  have hu1 : evA (fr.set p.2.2 (.ptr 0 (top S) 0)) u = evA fr u:=evA_congr fun t' ht'=>by
   rw [List.getElem?_set_ne fun e=>hu (by rw [ht',e])]
  have hv1 : evC P oc (fr.set p.2.2 (.ptr 0 (top S) 0)) (add2 (.cells (List.replicate xs.size .any) t) S) = some (.un,add2 (.cells cs t) S,[(0,top S)]):=by
   simp only [evC,hyo]
   rw [show evA (fr.set p.2.2 (.ptr 0 (top S) 0)) (.tmp p.2.2) = .ptr 0 (top S) 0 by simp [evA,hdl],hu1,hc]
   simp only
   rw [get2_add_new,downAll0]
   simp only
   rw [if_pos ⟨hcl,ht0,by simp [g5,hcl]⟩,set2_add,setAll_to _ _ _ (by simp [g5,hcl])]
   simp
  obtain ⟨x1,w',Pr',φ',hrun,s2,r2,_⟩:=evC_ok (P:=P) hf1 r1 hne1 hv1
  have hs1:=stp_adopt hs hne g6
  have hput : a.put oc.dst x1 = a:=by rw [hyd]; rfl
  have hput' : a.put oc.dst undef = a:=by rw [hyd]; rfl
  have hfin:=hK a w' Pr' φ' (hf1.mono s2.pl s2.fl) r2 (ne_of_stp s2 hne1) (hs1.trans s2) rfl ⟨hsz,γ,fun q hq h1 h2=>?_,fun q hq r hr h1 h2 h3 h4 hqr=>?_⟩
  ·rcases hrun with hrun | ⟨hrun,_⟩
   ·simp only [Oper.wp,hrun,Oper.upon,hput]; exact hfin
   ·simp only [Oper.wp,hrun,Oper.upon,hput']; exact hfin
  ·have hqi:=k5 q hq p hp
   obtain ⟨h3,h4⟩:=hback q hq hqi h1 h2
   have hqp : q ≠ p:=fun e=>by subst e; rw [hD',if_pos rfl] at h2; cases h2
   exact ((hγ q hq h3 h4).adopt (hinj q hq p hp h3 h4 hD1 hi hqp)).stp s2 rfl
  ·obtain ⟨h5,h6⟩:=hback q hq (k5 q hq p hp) h1 h2
   obtain ⟨h7,h8⟩:=hback r hr (k5 r hr p hp) h3 h4
   exact hinj q hq r hr h5 h6 h7 h8 hqr
 have hoth : ∀ p ∈ L,p.1 ≠ i ∧ p.2.1 ≠ i:=fun p hp=>⟨fun e=>hA ⟨p,hp,e⟩,fun e=>hB ⟨p,hp,e⟩⟩
 rw [virtO_other hoth] at ho'
 have ho2:=ho'.symm
 subst ho2
 have hwant : wantA (virt L ops) oc fr = wantA ops oc fr:=by
  unfold wantA
  cases hg : oc.guard with
  | none=>rfl
  | some gb =>
   obtain ⟨g,b⟩:=gb
   simp only
   have e : (virt L ops)[g]? = ops[g]?:=by
    rw [virt_get]
    cases hog : ops[g]? with
    | none=>rfl
    | some og =>
     simp only [Option.map_some]
     rw [virtO_other fun p hp=>by have:=k3 p hp i oc g b hoc hg; exact ⟨Ne.symm this.1,Ne.symm this.2⟩]
   rw [e]
 rw [hwant] at hst
 have hdst : ∀ q ∈ L,oc.dst ≠ some q.2.2:=fun q hq=>k2 q hq i oc hoc (Ne.symm (hoth q hq).1) (Ne.symm (hoth q hq).2)
 have hXn : ∀ x w' Pr' φ',Stp Pr φ w Pr' φ' w' → WaitsX P ops L w0.heap.size D' Pr' φ' (a.put oc.dst x) w':=fun x w' Pr' φ' s=>by
  refine ⟨fun q hq=>by rw [put_size]; exact hsz q hq,γ,fun q hq h1 h2=>?_,fun q hq r hr h1 h2 h3 h4 hqr=>?_⟩
  ·obtain ⟨h3,h4⟩:=hback q hq (hoth q hq).1 h1 h2
   exact (hγ q hq h3 h4).stp s (put_get' (hdst q hq))
  ·obtain ⟨h5,h6⟩:=hback q hq (hoth q hq).1 h1 h2
   obtain ⟨h7,h8⟩:=hback r hr (hoth r hr).1 h3 h4
   exact hinj q hq r hr h5 h6 h7 h8 hqr
 rcases hst with ⟨hw,rfl,rfl⟩ | ⟨hw,hst⟩
 ·simp only [wantA_ok hf hw,Bool.false_eq_true,if_false]
  exact hK _ _ Pr φ (hf.put oc.dst .un) hR hne hs (put_defers _ _ _) (hXn _ _ _ _ (Stp.refl _ _ _))
 ·simp only [wantA_ok hf hw,if_true]
  left
  exact stepped_ok hf hR hne hst fun x w' Pr' φ' s1 s2 s3=>hK _ _ Pr' φ' ((hf.mono s1.pl s1.fl).put oc.dst s3) s2 (ne_of_stp s1 hne) (hs.trans s1) (put_defers _ _ _) (hXn _ _ _ _ s1)
theorem awp_drawL {id : Nat} {fr : List AV} {S : ASt} {Q : Exit → List AV → ASt → Prop} (L : List (Nat × Nat × Nat)) (prs : List (Nat × Nat)) (hok : lateOK P ops L = true) (hst : statD (virt L ops) = true) (hprs : needLC (virt L ops) = prs) (hl : L.all (fun p=>decide (p.2.2 < fr.length)) = true) (h : awpD P (virt L ops) prs (Q .normal) (virtL L 0 ops.toList) 0 fr S [] [S] []) : awp P (.region id ops true) fr S Q:=by
 obtain ⟨V,Sx,hd,hK⟩:=drawn_of (ops:=virt L ops) prs hst hprs (by unfold virt; simpa [virt] using h)
 exact hd.late hok (fun p hp=>by simpa using List.all_eq_true.1 hl p hp) hK
end
def markO (rows : List Nat) (k : Nat) (o : Oper) : Oper :=
 match o.op with
 | .buildSlice _ _ _=>if rows.contains k = true then { o with type:=4294967295 } else o
 | _=>o
def markL (rows : List Nat) : Nat → List Oper → List Oper
 | _,[]=>[]
 | k,o :: os=>markO rows k o :: markL rows (k + 1) os
theorem markL_get (rows : List Nat) : ∀ (os : List Oper) (k i : Nat),(markL rows k os)[i]? = (os[i]?).map (markO rows (k + i))
 | [],k,i=>by simp [markL]
 | o :: os,k,0=>by simp [markL]
 | o :: os,k,i + 1=>by
  simp only [markL,List.getElem?_cons_succ]
  rw [markL_get rows os (k + 1) i]
  congr 2
  omega
theorem markL_len (rows : List Nat) : ∀ (os : List Oper) (k : Nat),(markL rows k os).length = os.length
 | [],k=>rfl
 | o :: os,k=>by simp [markL,markL_len rows os]
def markR (rows : List Nat) (ops : Array Oper) : Array Oper:=(markL rows 0 ops.toList).toArray
section
variable {P : Program} {ops : Array Oper} {rows : List Nat}
theorem markR_get (i : Nat) : (markR rows ops)[i]? = (ops[i]?).map (markO rows i):=by
 unfold markR
 rw [List.getElem?_toArray,markL_get,Nat.zero_add,Array.getElem?_toList]
theorem markO_same (k : Nat) (o : Oper) : (markO rows k o).dst = o.dst ∧ (markO rows k o).guard = o.guard ∧ (markO rows k o).after = o.after:=by
 unfold markO
 split
 ·split <;> exact ⟨rfl,rfl,rfl⟩
 ·exact ⟨rfl,rfl,rfl⟩
theorem mark_wp {k : Nat} {o : Oper} {a : Act} {w : World} {next : Act → World → Prop} {Q : Exit → Act → World → Prop} (h : (markO rows k o).wp P a w next Q) : o.wp P a w next Q:=by
 unfold markO at h
 split at h
 ·rename_i t n p ho
  split at h
  ·obtain ⟨dst,op,ty,pos,after,guard⟩:=o
   simp only at ho
   subst ho
   exact h
  ·exact h
 ·exact h
theorem mark_asks {k : Nat} {o : Oper} {a : Act} {w : World} (h : (markO rows k o).asks P a w) : o.asks P a w:=by
 unfold markO at h
 split at h
 ·rename_i t n p ho
  split at h
  ·obtain ⟨dst,op,ty,pos,after,guard⟩:=o
   simp only at ho
   subst ho
   exact h
  ·exact h
 ·exact h
theorem mark_yielded (ts : Array Value) : yielded (markR rows ops) ts = yielded ops ts:=by
 funext j
 unfold yielded
 have e : ((markR rows ops)[j]?).bind (·.dst) = (ops[j]?).bind (·.dst):=by
  rw [markR_get]
  cases ops[j]? with
  | none=>rfl
  | some x=>exact (markO_same j x).1
 rw [e]
theorem mark_ready (listed : Array Bool) : Region.ready .any (markR rows ops) listed = Region.ready .any ops listed:=by
 have hsize : (markR rows ops).size = ops.size:=by simp [markR,markL_len]
 unfold Region.ready
 rw [hsize]
 refine List.filter_congr fun j hj=>?_
 rw [markR_get]
 cases ops[j]? with
 | none=>rfl
 | some x=>simp only [Option.map_some,(markO_same j x).2.2]
theorem mark_any {Q : Exit → Act → World → Prop} : ∀ (n : Nat) (listed : Array Bool) (a : Act) (w : World),wpAny P .any (markR rows ops) Q n listed a w → wpAny P .any ops Q n listed a w
 | 0,listed,a,w,h=>by
  unfold wpAny at h ⊢
  rwa [mark_ready] at h
 | n + 1,listed,a,w,h=>by
  unfold wpAny at h ⊢
  rw [mark_ready] at h
  refine ⟨h.1,fun i hi=>?_⟩
  have h2:=h.2 i hi
  unfold wpOp at h2 ⊢
  rw [markR_get] at h2
  cases ho : ops[i]? with
  | none =>
   simp only [ho,Option.map_none] at h2 ⊢
   exact mark_any n _ _ _ h2
  | some o =>
   simp only [ho,Option.map_some] at h2 ⊢
   have hw : Region.wanted (markO rows i o) (yielded (markR rows ops) a.tmps) = Region.wanted o (yielded ops a.tmps):=by
    unfold Region.wanted
    rw [(markO_same i o).2.1,mark_yielded]
   rw [hw] at h2
   split
   ·rename_i hq
    rw [if_pos hq] at h2
    rcases h2 with h2 | ⟨h2,h3⟩
    ·exact .inl (mark_wp (rows:=rows) (k:=i) (by
      have : ∀ a' w',wpAny P .any (markR rows ops) Q n (listed.setIfInBounds i true) a' w' → wpAny P .any ops Q n (listed.setIfInBounds i true) a' w':=fun a' w'=>mark_any n _ a' w'
      exact Oper.wp_mono this h2))
    ·exact .inr ⟨mark_asks (rows:=rows) (k:=i) h2,h3⟩
   ·rename_i hq
    rw [if_neg hq,(markO_same i o).1] at h2
    exact mark_any n _ _ _ h2
theorem awp_mark {id : Nat} {fr : List AV} {S : ASt} {Q : Exit → List AV → ASt → Prop} (rows : List Nat) (h : awp P (.region id (markR rows ops) true) fr S Q) : awp P (.region id ops true) fr S Q:=by
 have hsize : (markR rows ops).size = ops.size:=by simp [markR,markL_len]
 have h' : ARegion P (markR rows ops) fr S Q:=h
 have key : ARegion P ops fr S Q:=by
  intro Pr0 φ0 a0 w0 Pr φ a w hf hR hne hs hdf
  have:=h' Pr0 φ0 a0 w0 Pr φ a w hf hR hne hs hdf
  rw [hsize] at this
  exact mark_any _ _ _ _ this
 exact key
theorem awp_drawR {id : Nat} {fr : List AV} {S : ASt} {Q : Exit → List AV → ASt → Prop} (rows : List Nat) (prs : List (Nat × Nat)) (hst : statD (markR rows ops) = true) (hprs : needLC (markR rows ops) = prs) (h : awpD P (markR rows ops) prs (Q .normal) (markL rows 0 ops.toList) 0 fr S [] [S] []) : awp P (.region id ops true) fr S Q :=
 awp_mark rows (awp_draw prs hst hprs (by simpa [markR] using h))
end
end Go.Proofs.YtfiohepfohhibaaDoor
namespace Go.Proofs.YtfiohepfohhibaaDoor
open Go.RowKit
def awpI (P : Program) (ops : Array Oper) : List Nat → List AV → ASt → (List AV → ASt → Prop) → Prop
 | [],fr,S,K=>K fr S
 | i :: is,fr,S,K =>
  match ops[i]? with
  | none=>False
  | some o =>
   match wantA ops o fr with
   | some true =>
    match stepF P o fr S with
    | some (v,S')=>awpI P ops is (putA fr o.dst v) S' K
    | none=>False
   | some false=>awpI P ops is (putA fr o.dst .un) S K
   | none=>False
theorem awpI_nil {P : Program} {ops : Array Oper} {fr : List AV} {S : ASt} {K : List AV → ASt → Prop} : awpI P ops [] fr S K = K fr S:=by rw [awpI]
theorem awpI_cons {P : Program} {ops : Array Oper} {fr : List AV} {S : ASt} {K : List AV → ASt → Prop} (i : Nat) (is : List Nat) : awpI P ops (i :: is) fr S K = (match ops[i]? with
  | none=>False
  | some o =>
   match wantA ops o fr with
   | some true =>
    match stepF P o fr S with
    | some (v,S')=>awpI P ops is (putA fr o.dst v) S' K
    | none=>False
   | some false=>awpI P ops is (putA fr o.dst .un) S K
   | none=>False):=by rw [awpI] <;> rfl
section
variable {P : Program} {ops : Array Oper}
end
end Go.Proofs.YtfiohepfohhibaaDoor
namespace Go.Proofs.YtfiohepfohhibaaDoor
open Go.RowKit
abbrev I (n : Int) : AV:=.p (.v (.int .i64 n))
abbrev U (n : Int) : AV:=.p (.v (.int .u8 n))
abbrev B (b : Bool) : AV:=.p (.v (.bool b))
abbrev Sg (s : ByteArray) : AV:=.p (.v (.string s))
abbrev nilS : AV:=.p (.v (.slice none 0 0))
def av (l : List PV) : AV:=.agg (l.map .p)
abbrev pS (s : ByteArray) : PV:=.v (.string s)
abbrev pU (n : Int) : PV:=.v (.int .u8 n)
abbrev pI (n : Int) : PV:=.v (.int .i64 n)
def strs (l : List ByteArray) : PV:=.sl 1 (l.map fun s=>[pS s])
mutual
def Ty.enc : Ty → List PV
 | .mk k s l=>[pU k,pS s,.sl 3 (Ty.encs l)]
def Ty.encs : List Ty → List (List PV)
 | []=>[]
 | t :: l=>t.enc :: Ty.encs l
end
theorem tyEncs (l : List Ty) : Ty.encs l = l.map Ty.enc:=by
 induction l with
 | nil=>rfl
 | cons t l ih=>simp [Ty.encs,ih]
theorem tyEnc (t : Ty) : t.enc = [pU t.kind,pS t.name,.sl 3 (t.args.map Ty.enc)]:=by
 cases t; simp [Ty.enc,Ty.kind,Ty.name,Ty.args,tyEncs]
def Pl.enc (x : Pl) : List PV:=[pS x.name,strs x.path]
mutual
def Ex.enc : Ex → List PV
 | .mk op i n s p l a=>[pU op,pI i,pS n,pS s,pS p.name,strs p.path,.sl 8 (Ex.encs l),pI a]
def Ex.encs : List Ex → List (List PV)
 | []=>[]
 | t :: l=>t.enc :: Ex.encs l
end
theorem exEncs (l : List Ex) : Ex.encs l = l.map Ex.enc:=by
 induction l with
 | nil=>rfl
 | cons t l ih=>simp [Ex.encs,ih]
theorem exEnc (e : Ex) : e.enc = [pU e.op,pI e.int,pS e.name,pS e.second,pS e.place.name,strs e.place.path,.sl 8 (e.args.map Ex.enc),pI e.pos]:=by
 cases e; simp [Ex.enc,Ex.op,Ex.int,Ex.name,Ex.second,Ex.place,Ex.args,Ex.pos,exEncs]
mutual
def St.enc : St → List PV
 | .mk op n s ns t i p es b e l a=>[pU op,pS n,pS s,strs ns,pU t.kind,pS t.name,.sl 3 (Ty.encs t.args),pI i,pS p.name,strs p.path,.sl 8 (Ex.encs es),.sl 15 (St.encs b),.sl 15 (St.encs e),.sl 3 (Ar.encs l),pI a]
def St.encs : List St → List (List PV)
 | []=>[]
 | t :: l=>t.enc :: St.encs l
def Ar.encs : List (ArOf St) → List (List PV)
 | []=>[]
 | ⟨v,n,b⟩ :: l=>[pS v,pS n,.sl 15 (St.encs b)] :: Ar.encs l
end
theorem stEncs (l : List St) : St.encs l = l.map St.enc:=by
 induction l with
 | nil=>rfl
 | cons t l ih=>simp [St.encs,ih]
def Ar.enc (a : Ar) : List PV:=[pS a.variant,pS a.name,.sl 15 (a.body.map St.enc)]
theorem arEncs (l : List Ar) : Ar.encs l = l.map Ar.enc:=by
 induction l with
 | nil=>rfl
 | cons a l ih=>cases a; simp [Ar.encs,Ar.enc,ih,stEncs]
theorem stEnc (s : St) : s.enc = [pU s.op,pS s.name,pS s.second,strs s.names,pU s.type.kind,pS s.type.name,.sl 3 (s.type.args.map Ty.enc),pI s.int,pS s.place.name,strs s.place.path,.sl 8 (s.exprs.map Ex.enc),.sl 15 (s.body.map St.enc),.sl 15 (s.els.map St.enc),.sl 3 (s.arms.map Ar.enc),pI s.pos]:=by
 cases s; simp [St.enc,St.op,St.name,St.second,St.names,St.type,St.int,St.place,St.exprs,St.body,St.els,St.arms,St.pos,tyEncs,exEncs,stEncs,arEncs]
def Fi.enc (x : Fi) : List PV:=[pS x.name,pU x.type.kind,pS x.type.name,.sl 3 (x.type.args.map Ty.enc)]
def It.enc (x : It) : List PV:=[pU x.kind,pS x.name,.sl 4 (x.fields.map Fi.enc),pU x.result.kind,pS x.result.name,.sl 3 (x.result.args.map Ty.enc),.sl 15 (x.body.map St.enc),
 pU x.ret.op,pI x.ret.int,pS x.ret.name,pS x.ret.second,pS x.ret.place.name,strs x.ret.place.path,.sl 8 (x.ret.args.map Ex.enc),pI x.ret.pos,pI x.pos]
def prog (p : List It) : PV:=.sl 16 (p.map It.enc)
theorem okl {α : Type} {k : Nat} {l : List α} {f : α → List PV} (h : PVok (.sl k (l.map f))) : l.length ≤ maxLen:=by simpa using h.len
def allOf (w : World) : Prot:=fun b o=>w.cell? ⟨b,o,none⟩
attribute [simp] isOwn isR isL aslA cellsX appR loopN_normal loopN_exit loopN_ret nextQ_eq seqQ_normal seqQ_exit seqQ_ret blkQ_normal blkQ_exit blkQ_ret loopQ_normal loopQ_exit loopQ_ret retOk_eq awp_skip awp_region awp_seq awp_cond awp_block awp_exit awp_label
attribute [simp] findA lookA updA entA entS pairA keyOk sliceSA nilA maxA
attribute [simp] awp_ret awpF_nil awpF_cons wantA callA stepF evP evC evL convA bytesOf appSA strA evA orG putA valA atom AV.ups AV.up AV.down AV.downs cellsB cellsAV oneA top add2 set2_suc set2_zero
attribute [simp] set2_set2 get2_suc get2_zero get2_set2 fieldA indexA indexSA partV lenA sliceA natA binV unV fullA buildA fillA setAll downAll appA rowsA AV.toP toPs rowsOf
end Go.Proofs.YtfiohepfohhibaaDoor
