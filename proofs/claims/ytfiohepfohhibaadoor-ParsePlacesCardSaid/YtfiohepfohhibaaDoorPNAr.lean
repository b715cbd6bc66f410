/- A part of the proof. The statement is proved in the claim's last text. -/
import Derived.Test.YtfiohepfohhibaaDoorPMLb
import Derived.RangeFuncRecord
import Derived.OrdersIn
import Derived.Test.YtfiohepfohhibaaDoorPMLt
import Derived.Scope
import Derived.RangeFuncLeaves
set_option linter.unusedVariables false
set_option linter.unusedSimpArgs false
set_option maxRecDepth 100000
set_option maxHeartbeats 32000000
namespace Go.Proofs.YtfiohepfohhibaaDoor
open Go.RowKit
abbrev Wd (r : Option Nat) : Fence:={ Fence.wide with round:=r }
theorem calls_wd {r : Option Nat} {n : Nat} {P : Program} {f : FuncId} {args : Array Value} {w : World} {R : Ending → World → Prop} (h : Calls P f args w R) : CallsIn (Wd r) n P f args w R :=
 (callsIn_wide (n:=n)).2 h
theorem rows_wd {r : Option Nat} {n : Nat} {P : Program} {row : String} {args : Array Value} {w : World} {R : Value → World → Prop} (h : Rows P row args w R) : RowsIn (Wd r) n P row args w R :=
 fun c cs _=>let ⟨v,w',k,s⟩:=h c cs; ⟨v,w',k,stepsIn_wide.2 s⟩
def opOk (o : Oper) : Bool:=match o.op with
 | .defer _=>false
 | _=>true
theorem opOk_ne {o : Oper} (h : opOk o = true) : ∀ c,o.op ≠ .defer c:=fun c e=>by
 unfold opOk at h; rw [e] at h; cases h
theorem op_wd {r : Option Nat} {n : Nat} {P : Program} {o : Oper} {a : Act} {w : World} {next next' : Act → World → Prop} {Q : Exit → Act → World → Prop} (hd : opOk o = true) (hn : ∀ a w,next a w → next' a w) (h : o.wp P a w next Q) : o.wpIn (Wd r) n P a w next' Q:=by
 refine ⟨fun _ _=>trivial,?_⟩
 rw [Oper.semAt_eq _ _ _ (opOk_ne hd)]
 unfold Oper.wp at h
 generalize (execOp a.eval o).run P w = res at *
 unfold Oper.upon at h
 unfold Oper.uponIn
 split at h
 ·exact hn _ _ h
 ·exact hn _ _ h
 ·exact hn _ _ h
 ·refine ⟨fun h=>(by cases h),calls_wd (h.mono fun e w' he=>?_)⟩
  cases e with
  | returned v=>exact hn _ _ he
  | panicked c=>exact he
  | outgrown=>exact he
 ·exact ⟨fun h=>(by cases h),rows_wd (h.mono fun v w' he=>hn _ _ he)⟩
 ·exact h
 ·exact h.elim
theorem ops_wd {r : Option Nat} {n : Nat} {P : Program} {ops : Array Oper} {Q : Exit → Act → World → Prop} (hd : ∀ (i : Nat) (o : Oper),ops[i]? = some o → opOk o = true) (hQ : ¬ LetsOut Q) : ∀ (l : List Nat) (a : Act) (w : World),wpOps P ops Q l a w → wpOpsIn (Wd r) n P ops Q l a w
 | [],a,w,h=>h
 | i :: l,a,w,h=>by
  simp only [wpOps] at h
  simp only [wpOpsIn]
  split
  ·rename_i ho
   simp only [ho] at h
   exact ops_wd hd hQ l a w h
  ·rename_i o ho
   simp only [ho] at h
   split
   ·rename_i hw
    rw [if_pos hw] at h
    exact op_wd (hd i o ho) (fun a w=>ops_wd hd hQ l a w) (h.resolve_right fun h=>hQ h.2)
   ·rename_i hw
    rw [if_neg hw] at h
    exact ⟨fun _ _=>trivial,ops_wd hd hQ l _ w h⟩
theorem any_wd {r : Option Nat} {n : Nat} {P : Program} {md : Region.Mode} {ops : Array Oper} {Q : Exit → Act → World → Prop} (hd : ∀ (i : Nat) (o : Oper),ops[i]? = some o → opOk o = true) (hQ : ¬ LetsOut Q) : ∀ (f : Nat) (l : Array Bool) (a : Act) (w : World),wpAny P md ops Q f l a w → wpAnyIn (Wd r) n P md ops Q f l a w
 | 0,l,a,w,h=>h
 | f + 1,l,a,w,h=>by
  obtain ⟨h0,h1⟩:=h
  refine ⟨h0,fun i hi=>?_⟩
  have h2:=h1 i hi
  unfold wpOp at h2
  unfold wpOpIn
  split
  ·rename_i ho
   simp only [ho] at h2
   exact any_wd hd hQ f _ a w h2
  ·rename_i o ho
   simp only [ho] at h2
   split
   ·rename_i hw
    rw [if_pos hw] at h2
    exact op_wd (hd i o ho) (fun a w=>any_wd hd hQ f _ a w) (h2.resolve_right fun h=>hQ h.2)
   ·rename_i hw
    rw [if_neg hw] at h2
    exact ⟨fun _ _=>trivial,any_wd hd hQ f _ _ w h2⟩
theorem wpIn_loop_ghost {F : Fence} {n : Nat} {P : Program} {Q : Exit → Act → World → Prop} {a : Act} {w : World} {c : Code} (I : Nat → Act → World → Prop) (n₀ : Nat) (h₀ : I n₀ a w)
  (round : ∀ k a w,I k a w → c.wpIn F n P (Exit.then (fun a' w'=>∃ n',n' < k ∧ I n' a' w') Q) a w) : (Code.loop c).wpIn F n P Q a w:=by
 refine wpIn_loop (fun a w=>∃ n,I n a w) (fun a w=>leastOf (fun n=>I n a w)) ⟨n₀,h₀⟩ ?_
 intro a w hI
 refine wpIn_mono (round _ a w (leastOf_spec hI).1) ?_
 intro e a' w' hq
 cases e with
 | normal =>
  obtain ⟨n',hlt,hI'⟩:=hq
  exact show (∃ n,I n a' w') ∧ leastOf (fun n=>I n a' w') < leastOf (fun n=>I n a w) from ⟨⟨n',hI'⟩,Nat.lt_of_le_of_lt ((leastOf_spec ⟨n',hI'⟩).2 n' hI') hlt⟩
 | exit id=>exact hq
 | goto l=>exact hq
 | ret=>exact hq
 | panic ch=>exact hq
 | outgrown=>exact hq
def codeOk : Code → Bool
 | .region _ ops _=>ops.toList.all opOk
 | .seq a b=>codeOk a && codeOk b
 | .cond _ a b=>codeOk a && codeOk b
 | .block _ a=>codeOk a
 | .loop a=>codeOk a
 | .scope a=>codeOk a
 | _=>true
theorem opsOk {ops : Array Oper} (h : ops.toList.all opOk = true) : ∀ (i : Nat) (o : Oper),ops[i]? = some o → opOk o = true:=fun i o ho=>by
 rw [List.all_eq_true] at h
 exact h o (by rw [← Array.getElem?_toList] at ho; exact List.mem_of_getElem? ho)
theorem post_in {Pr : Prot} {φ : Fi2} {a : Act} {w : World} {Q : Exit → List AV → ASt → Prop} (hQ : ∀ fr S,¬ Q .outgrown fr S) : ¬ LetsOut (Post Pr φ a w Q):=by
 rintro ⟨a',w',fr',S',Pr',φ',h,_⟩
 exact hQ _ _ h
theorem awp_okR {P : Program} (hm : P.follows .mixedOrders = true) {r : Option Nat} {n0 : Nat} : ∀ (c : Code) (Q : Exit → List AV → ASt → Prop) (Pr : Prot) (φ : Fi2) (fr : List AV) (a : Act) (S : ASt) (w : World),codeOk c = true → (∀ fr S,¬ Q .outgrown fr S) → RF Pr φ fr a → Rel Pr φ S w → φ ≠ [] → awp P c fr S Q → c.wpIn (Wd r) n0 P (Post Pr φ a w Q) a w
 | .skip,Q,Pr,φ,fr,a,S,w,hc,hQ,h,hR,hne,hk=>wpIn_skip ⟨fr,S,Pr,φ,hk,h,hR,Stp.refl _ _ _,rfl⟩
 | .label l,Q,Pr,φ,fr,a,S,w,hc,hQ,h,hR,hne,hk=>wpIn_label ⟨fr,S,Pr,φ,hk,h,hR,Stp.refl _ _ _,rfl⟩
 | .exit id,Q,Pr,φ,fr,a,S,w,hc,hQ,h,hR,hne,hk=>wpIn_exit ⟨fr,S,Pr,φ,hk,h,hR,Stp.refl _ _ _,rfl⟩
 | .ret,Q,Pr,φ,fr,a,S,w,hc,hQ,h,hR,hne,hk=>wpIn_ret ⟨fr,S,Pr,φ,hk,h,hR,Stp.refl _ _ _,rfl⟩
 | .region id ops draw,Q,Pr,φ,fr,a,S,w,hc,hQ,h,hR,hne,hk=>by
  cases draw with
  | true =>
   have hk' : ARegion P ops fr S Q:=hk
   obtain ⟨s1,r1⟩:=rel_drew hR (w.drawn + 1)
   exact wpIn_region_any hm (any_wd (opsOk hc) (post_in hQ) _ _ _ _ (hk' Pr φ a w Pr φ a _ h r1 hne s1 rfl))
  | false =>
   have hk' : awpL P ops ops.toList fr S (Q .normal):=awpF_L _ _ _ hk
   refine wpIn_region (ops_wd (opsOk hc) (post_in hQ) _ _ _ ?_)
   have:=awpL_ok (Q:=Q) (fun _ _ h=>h) ops.toList 0 rfl Pr φ fr a S w h hR hne (Stp.refl _ _ _) rfl hk'
   rwa [List.range_eq_range',← Array.length_toList]
 | .seq x y,Q,Pr,φ,fr,a,S,w,hc,hQ,h,hR,hne,hk=>by
  rw [codeOk,Bool.and_eq_true] at hc
  refine wpIn_seq (wpIn_mono (awp_okR hm x (fun e fr S=>match e with | .normal=>awp P y fr S Q | e=>Q e fr S) Pr φ fr a S w hc.1 (fun fr S=>hQ fr S) h hR hne hk) fun e a' w' hp=>?_)
  obtain ⟨fr',S',Pr',φ',h1,h2,h3,h4,h5⟩:=hp
  cases e with
  | normal=>exact wpIn_mono (awp_okR hm y Q Pr' φ' fr' a' S' w' hc.2 hQ h2 h3 (ne_of_stp h4 hne) h1) fun e a'' w'' hp=>Post.trans h4 h5 e a'' w'' hp
  | _=>exact ⟨fr',S',Pr',φ',h1,h2,h3,h4,h5⟩
 | .cond c t e,Q,Pr,φ,fr,a,S,w,hc,hQ,h,hR,hne,hk=>by
  rw [codeOk,Bool.and_eq_true] at hc
  simp only [awp] at hk
  split at hk
  ·rename_i b hb
   have hc':=atomAV_ok (h.ev c) (by rw [hb]; rfl)
   refine wpIn_cond hc' ?_
   cases b with
   | true=>exact awp_okR hm t Q Pr φ fr a S w hc.1 hQ h hR hne hk
   | false=>exact awp_okR hm e Q Pr φ fr a S w hc.2 hQ h hR hne hk
  ·rename_i hb
   have hc':=h.ev c
   rw [hb] at hc'
   generalize hy : a.eval c = y at hc'
   cases hc' with
   | bl b =>
    refine wpIn_cond hy ?_
    cases b with
    | true=>exact awp_okR hm t Q Pr φ fr a S w hc.1 hQ h hR hne hk.1
    | false=>exact awp_okR hm e Q Pr φ fr a S w hc.2 hQ h hR hne hk.2
  ·exact hk.elim
 | .block id body,Q,Pr,φ,fr,a,S,w,hc,hQ,h,hR,hne,hk=>by
  refine wpIn_block (wpIn_mono (awp_okR hm body (fun e fr S=>match e with | .exit j=>if j = id then Q .normal fr S else Q (.exit j) fr S | e=>Q e fr S) Pr φ fr a S w hc (fun fr S=>hQ fr S) h hR hne hk) fun e a' w' hp=>?_)
  obtain ⟨fr',S',Pr',φ',h1,h2,h3,h4,h5⟩:=hp
  cases e with
  | exit j =>
   simp only [Exit.inBlock]
   simp only at h1
   split
   ·rename_i hj
    rw [if_pos hj] at h1
    exact ⟨fr',S',Pr',φ',h1,h2,h3,h4,h5⟩
   ·rename_i hj
    rw [if_neg hj] at h1
    exact ⟨fr',S',Pr',φ',h1,h2,h3,h4,h5⟩
  | _=>exact ⟨fr',S',Pr',φ',h1,h2,h3,h4,h5⟩
 | .loop body,Q,Pr,φ,fr,a,S,w,hc,hQ,h,hR,hne,hk=>by
  obtain ⟨α,I,F,G,μ,a0,n,hI,hw,hn,hb⟩:=hk
  obtain ⟨φs,s0,hfs,hRs,hts⟩:=hw Pr φ a w h hR hne
  have hn2 : top φs = top (G a0):=top_map hRs.shape
  refine wpIn_loop_ghost (fun k a1 w1=>∃ m Pr1 φ1,I m ∧ μ m = k ∧ RF Pr1 φ1 (F m) a1 ∧ Rel Pr1 φ1 (G m) w1 ∧ Stp Pr φ w Pr1 φ1 w1 ∧ a1.defers = a.defers) (μ a0) ⟨a0,Pr,φs,hI,rfl,hfs,hRs,s0,rfl⟩ ?_
  rintro k a1 w1 ⟨m,Pr1,φ1,hIm,rfl,hf,hr,hs,hd⟩
  refine wpIn_mono (awp_okR hm body (LoopN I F G μ (μ m) n Q) Pr1 φ1 (F m) a1 (G m) w1 hc (fun fr S=>hQ fr S) hf hr (ne_of_stp hs hne) (hb m hIm)) fun e a2 w2 hp=>?_
  obtain ⟨fr',S',Pr2,φ2,h1,h2,h3,h4,h5⟩:=hp
  cases e with
  | normal =>
   obtain ⟨m',hI',hlt,hwf,hws⟩:=h1
   have hs2:=hs.trans h4
   have hne2 : φ2 ≠ []:=ne_of_stp hs2 hne
   obtain ⟨l2,φr,rfl⟩:=List.exists_cons_of_ne_nil hne2
   obtain ⟨l0,φ0,rfl⟩:=List.exists_cons_of_ne_nil hne
   have hS' : S' ≠ []:=fun h0=>by have:=h3.shape; rw [h0] at this; simp at this
   obtain ⟨L',SR,rfl⟩:=List.exists_cons_of_ne_nil hS'
   have hl0 : l0.length ≤ n m':=Nat.le_trans (Nat.le_trans hts (Nat.le_of_eq hn2)) (hn m' hI')
   have hf2 : RF Pr2 (l2.take (n m') :: φr) (AV.cuts (n m') fr') a2:=⟨by rw [cuts_len]; exact h2.len,fun t c x hc hx=>by
    rw [cuts_get] at hc
    obtain ⟨c0,h0,rfl⟩:=Option.map_eq_some_iff.1 hc
    exact (h2.at_ t c0 x h0 hx).cut⟩
   exact ⟨μ m',hlt,m',Pr2,l2.take (n m') :: φr,hI',rfl,hf2.wk (wkR_ok hwf),rel_wk (rel_trim h3 (n m')) (wkT_ok hws),stp_trim hs2 hl0,h5.trans hd⟩
  | _=>exact ⟨fr',S',Pr2,φ2,h1,h2,h3,hs.trans h4,h5.trans hd⟩
 | .scope _,Q,Pr,φ,fr,a,S,w,hc,hQ,h,hR,hne,hk=>hk.elim
 | .rangeFunc _ _ _ _,Q,Pr,φ,fr,a,S,w,hc,hQ,h,hR,hne,hk=>hk.elim
 | .goto _,Q,Pr,φ,fr,a,S,w,hc,hQ,h,hR,hne,hk=>hk.elim
 | .refuse _,Q,Pr,φ,fr,a,S,w,hc,hQ,h,hR,hne,hk=>hk.elim
end Go.Proofs.YtfiohepfohhibaaDoor
namespace Go.Proofs.YtfiohepfohhibaaDoor
open Go.RowKit
theorem lift_far {Pr Pr' : Prot} {l : List Ent} {φ φ' : Fi2} {L : List AObj} {S : ASt} {w w' : World} (h : Rel Pr (l :: φ) (L :: S) w) (hs : Stp Pr φ w Pr' φ' w') {i : Nat} {e : Ent} {g : Nat} (he : get2 (l :: φ) 0 i = some e) (hg : e.blk = some g) : w'.heap[g]? = w.heap[g]? ∧ ∀ o,Pr g o = none → Pr' g o = none:=by
 have hlt:=h.lt 0 i e g he hg
 have hun : ∀ d i e,get2 φ d i = some e → e.blk ≠ some g:=fun d i' e' h1 h2=>by
  have:=(h.dis 0 i e (d + 1) i' e' g he h1 hg h2).1
  omega
 refine ⟨hs.fr.block g hlt hun,fun o h0=>?_⟩
 cases hv : Pr' g o with
 | none=>rfl
 | some v =>
  rcases hs.pn g o h0 (by rw [hv]; simp) with ⟨d,i',e',h1,h2⟩ | h1
  ·exact absurd h2 (hun d i' e' h1)
  ·omega
theorem lift_fle {l : List Ent} {φ φ' : Fi2} (h : Fle φ φ') : Fle (l :: φ) (l :: φ'):=fun d i e he=>by
 cases d with
 | zero=>exact ⟨e,he,e.le_refl⟩
 | succ d=>exact h d i e he
theorem lift_rel {Pr Pr' : Prot} {l : List Ent} {φ φ' : Fi2} {L : List AObj} {S S' : ASt} {w w' : World} (h : Rel Pr (l :: φ) (L :: S) w) (hs : Stp Pr φ w Pr' φ' w') (hR : Rel Pr' φ' S' w') : Rel Pr' (l :: φ') (L :: S') w':=by
 have hfresh : ∀ d i e g,get2 φ' d i = some e → e.blk = some g → ∀ i0 e0,get2 (l :: φ) 0 i0 = some e0 → e0.blk = some g → False:=fun d i e g h1 h2 i0 e0 h3 h4=>by
  rcases hs.fresh d i e g h1 h2 with ⟨d1,i1,e1,k1,k2⟩ | k1
  ·have:=(h.dis 0 i0 e0 (d1 + 1) i1 e1 g h3 k1 h4 k2).1
   omega
  ·have:=h.lt 0 i0 e0 g h3 h4
   omega
 refine ⟨fun d i o ho=>?_,fun d i e d' i' e' g h1 h2 h3 h4=>?_,fun d i e g h1 h2=>?_,hR.pr,fun g cs hm=>⟨(hR.tb g cs hm).1,(hR.tb g cs hm).2.1,(hR.tb g cs hm).2.2.1,fun d i e he=>?_⟩,by have k1:=hR.shape; have k2:=h.shape; simp at k2; simp [k1,k2.1]⟩
 ·cases d with
  | zero =>
   obtain ⟨e,he,hr⟩:=h.obj 0 i o ho
   exact ⟨e,he,hr.keep hs.pl (lift_fle hs.fl) fun g hg=>lift_far h hs he hg⟩
  | succ d=>exact hR.obj d i o ho
 ·cases d with
  | zero =>
   cases d' with
   | zero=>exact h.dis 0 i e 0 i' e' g h1 h2 h3 h4
   | succ d'=>exact (hfresh d' i' e' g h2 h4 i e h1 h3).elim
  | succ d =>
   cases d' with
   | zero=>exact (hfresh d i e g h1 h3 i' e' h2 h4).elim
   | succ d' =>
    have:=hR.dis d i e d' i' e' g h1 h2 h3 h4
    exact ⟨by omega,this.2⟩
 ·cases d with
  | zero=>exact Nat.lt_of_lt_of_le (h.lt 0 i e g h1 h2) hs.fr.size
  | succ d=>exact hR.lt d i e g h1 h2
 ·cases d with
  | zero=>exact (h.tb g cs hm).2.2.2 0 i e he
  | succ d=>exact (hR.tb g cs hm).2.2.2 d i e he
theorem lift_stp {Pr Pr' : Prot} {l : List Ent} {φ φ' : Fi2} {w w' : World} (hs : Stp Pr φ w Pr' φ' w') : Stp Pr (l :: φ) w Pr' (l :: φ') w':=by
 refine ⟨hs.pl,lift_fle hs.fl,fun d i e g he hg=>?_,⟨hs.fr.os,hs.fr.tape,hs.fr.output,hs.fr.size,fun g hg hn=>hs.fr.block g hg fun d i e he=>hn (d + 1) i e he⟩,by simp [hs.len],fun g o h0 h1=>?_⟩
 ·cases d with
  | zero=>exact .inl ⟨0,i,e,he,hg⟩
  | succ d =>
   rcases hs.fresh d i e g he hg with ⟨d1,i1,e1,k1,k2⟩ | k1
   ·exact .inl ⟨d1 + 1,i1,e1,k1,k2⟩
   ·exact .inr k1
 ·rcases hs.pn g o h0 h1 with ⟨d1,i1,e1,k1,k2⟩ | k1
  ·exact .inl ⟨d1 + 1,i1,e1,k1,k2⟩
  ·exact .inr k1
theorem stp_trim2 {Pr0 Pr : Prot} {x0 x l0 l : List Ent} {φ0 φ : Fi2} {w0 w : World} (h : Stp Pr0 (x0 :: l0 :: φ0) w0 Pr (x :: l :: φ) w) {n : Nat} (hn : l0.length ≤ n) : Stp Pr0 (x0 :: l0 :: φ0) w0 Pr (x :: l.take n :: φ) w:=by
 refine ⟨h.pl,fun d i e he=>?_,fun d i e g he hg=>?_,h.fr,by simpa using h.len,h.pn⟩
 ·obtain ⟨e',h1,h2⟩:=h.fl d i e he
  refine ⟨e',?_,h2⟩
  cases d with
  | zero=>exact h1
  | succ d =>
   have h1' : get2 (l :: φ) d i = some e':=h1
   have he' : get2 (l0 :: φ0) d i = some e:=he
   show get2 (l.take n :: φ) d i = some e'
   refine get2_take h1' fun hd=>?_
   subst hd
   have : i < l0.length:=by
    simp only [get2,List.getElem?_cons_zero,Option.bind_some] at he'
    exact (List.getElem?_eq_some_iff.1 he').1
   omega
 ·cases d with
  | zero=>exact h.fresh 0 i e g he hg
  | succ d=>exact h.fresh (d + 1) i e g (show get2 (l :: φ) d i = some e from (get2_take_inv he).1) hg
def YDet (P : Program) (l : Nat) (args : List AV) (S : ASt) (r : AV) (S' : ASt) : Prop :=
 ∀ Pr φ (xs : Array Value) w,RL Pr φ args xs → Rel Pr φ S w → φ ≠ [] → ∃ f tmps assign body,(Instr.yield l xs).run P w = .ok (.round l f tmps assign body) w ∧
  RoundIn Fence.wide 0 P l f tmps assign body w fun e w'=>∃ x Pr' φ',e = .returned x ∧ Stp Pr φ w Pr' φ' w' ∧ Rel Pr' φ' S' w' ∧ RA Pr' φ' r x
def yieldA (o : Oper) (fr : List AV) : Option (Nat × List AV) :=
 match o.op with
 | .call c =>
  match c.callee with
  | .value f =>
   match evA fr f with
   | .fn (.yield l) [] []=>some (l,c.args.toList.map (evA fr))
   | _=>none
  | _=>none
 | _=>none
theorem yield_ok {P : Program} {r : Option Nat} {n : Nat} {Pr : Prot} {φ : Fi2} {o : Oper} {fr : List AV} {a : Act} {S S' : ASt} {w : World} {l : Nat} {args : List AV} {v : AV} (h : RF Pr φ fr a) (hR : Rel Pr φ S w) (hne : φ ≠ []) (hy : yieldA o fr = some (l,args)) (hd : YDet P l args S v S') {next : Act → World → Prop} {Q : Exit → Act → World → Prop}
  (hk : ∀ x w' Pr' φ',Stp Pr φ w Pr' φ' w' → Rel Pr' φ' S' w' → RA Pr' φ' v x → next (a.put o.dst x) w') : o.wpIn (Wd r) n P a w next Q:=by
 unfold yieldA at hy
 split at hy
 case h_2=>cases hy
 rename_i c ho
 split at hy
 case h_2=>cases hy
 rename_i f hc
 split at hy
 case h_2=>cases hy
 rename_i l' hf
 cases hy
 have hfv:=h.ev f
 rw [hf] at hfv
 generalize hy : a.eval f = y at hfv
 cases hfv with
 | @fn _ _ _ xs ys l1 l2 c1 c2 =>
  obtain rfl : xs = #[]:=Array.eq_empty_of_size_eq_zero l1.symm
  obtain rfl : ys = #[]:=Array.eq_empty_of_size_eq_zero l2.symm
  have hargs : RL Pr φ (c.args.toList.map (evA fr)) (c.args.map a.eval):=by
   refine ⟨by simp,fun j q x hq hx=>?_⟩
   rw [List.getElem?_map] at hq
   obtain ⟨q0,h0,rfl⟩:=Option.map_eq_some_iff.1 hq
   have h0' : c.args[j]? = some q0:=by simpa using h0
   rw [Array.getElem?_map,h0'] at hx
   cases hx
   exact h.ev _
  obtain ⟨fn,tmps,assign,body,hrun,hround⟩:=hd Pr φ _ w hargs hR hne
  have hrun : (execOp a.eval o).run P w = .ok (.round l fn tmps assign body) w:=by
   rw [← hrun]
   simp [execOp,ho,resolve,hc,hy,Deferred.ofValue,invoke,callFunc]
  refine ⟨fun _ _=>trivial,?_⟩
  rw [Oper.semAt_eq _ _ _ (by rw [ho]; intro c hc; cases hc)]
  simp only [hrun,Oper.uponIn]
  refine ⟨fun h=>(by cases h),⟨trivial,fun c cs _=>?_⟩⟩
  obtain ⟨e,w',⟨x,Pr',φ',rfl,s1,s2,s3⟩,hc⟩:=hround.2 c cs (room_wide _)
  exact ⟨.returned x,w',hk x w' Pr' φ' s1 s2 s3,hc⟩
def awpY (P : Program) (ops : Array Oper) : List Oper → List AV → ASt → (List AV → ASt → Prop) → Prop
 | [],fr,S,K=>K fr S
 | o :: os,fr,S,K =>
  match wantA ops o fr with
  | some true =>
   match yieldA o fr with
   | some (l,args)=>∃ r S',YDet P l args S r S' ∧ awpY P ops os (putA fr o.dst r) S' K
   | none =>
    match callA o fr with
    | some (F,args)=>∃ r S',ADet P F args S r S' ∧ awpY P ops os (putA fr o.dst r) S' K
    | none =>
     match stepF P o fr S with
     | some (v,S')=>awpY P ops os (putA fr o.dst v) S' K
     | none=>False
  | some false=>awpY P ops os (putA fr o.dst .un) S K
  | none=>False
theorem awpY_ok {P : Program} {r : Option Nat} {n : Nat} {ops : Array Oper} (hok : ∀ (i : Nat) (o : Oper),ops[i]? = some o → opOk o = true) {K : List AV → ASt → Prop} {Q : Exit → List AV → ASt → Prop} (hQ : ∀ fr S,K fr S → Q .normal fr S) {Pr0 : Prot} {φ0 : Fi2} {a0 : Act} {w0 : World} : ∀ (os : List Oper) (i : Nat),ops.toList.drop i = os → ∀ (Pr : Prot) (φ : Fi2) (fr : List AV) (a : Act) (S : ASt) (w : World),RF Pr φ fr a → Rel Pr φ S w → φ ≠ [] → Stp Pr0 φ0 w0 Pr φ w → a.defers = a0.defers → awpY P ops os fr S K →
  wpOpsIn (Wd r) n P ops (Post Pr0 φ0 a0 w0 Q) (List.range' i os.length) a w
 | [],i,hi,Pr,φ,fr,a,S,w,h,hR,hne,hs0,hd0,hk=>⟨fr,S,Pr,φ,hQ _ _ hk,h,hR,hs0,hd0⟩
 | o :: os,i,hi,Pr,φ,fr,a,S,w,h,hR,hne,hs0,hd0,hk=>by
  have ho : ops[i]? = some o:=by
   have : (ops.toList.drop i)[0]? = some o:=by rw [hi]; rfl
   rw [List.getElem?_drop] at this
   simpa using this
  have hi' : ops.toList.drop (i + 1) = os:=by rw [← List.drop_drop,hi]; rfl
  simp only [List.length_cons,List.range'_succ]
  simp only [wpOpsIn,ho]
  simp only [awpY] at hk
  split at hk
  ·rename_i hw
   simp only [wantA_ok h hw,if_true]
   have go : ∀ {v : AV} {S' : ASt},awpY P ops os (putA fr o.dst v) S' K → ∀ x w' Pr' φ',Stp Pr φ w Pr' φ' w' → Rel Pr' φ' S' w' → RA Pr' φ' v x → wpOpsIn (Wd r) n P ops (Post Pr0 φ0 a0 w0 Q) (List.range' (i + 1) os.length) (a.put o.dst x) w':=fun hrest x w' Pr' φ' s1 s2 s3 =>
    awpY_ok hok hQ os (i + 1) hi' Pr' φ' _ _ _ w' ((h.mono s1.pl s1.fl).put o.dst s3) s2 (ne_of_stp s1 hne) (hs0.trans s1) ((put_defers _ _ _).trans hd0) hrest
   split at hk
   ·rename_i l args hy
    obtain ⟨v,S',hs,hrest⟩:=hk
    exact yield_ok h hR hne hy hs (go hrest)
   ·split at hk
    ·rename_i F args hc
     obtain ⟨v,S',hs,hrest⟩:=hk
     exact op_wd (hok i o ho) (fun _ _ h=>h) (stepped_ok h hR hne (callA_ok hc hs) (go hrest))
    ·split at hk
     ·rename_i v S' hs
      exact op_wd (hok i o ho) (fun _ _ h=>h) (stepped_ok h hR hne (stepF_ok hs) (go hk))
     ·exact hk.elim
  ·rename_i hw
   simp only [wantA_ok h hw,Bool.false_eq_true,if_false]
   exact ⟨fun _ _=>trivial,awpY_ok hok hQ os (i + 1) hi' Pr φ _ _ S w (h.put o.dst (Pr:=Pr) (φ:=φ) (v:=.un) (x:=undef) .un) hR hne hs0 ((put_defers _ _ _).trans hd0) hk⟩
  ·exact hk.elim
end Go.Proofs.YtfiohepfohhibaaDoor
namespace Go.Proofs.YtfiohepfohhibaaDoor
open Go.RowKit
def setPs (fr : List AV) (ps : List Nat) (args : List AV) : List AV:=(ps.zip args).foldl (fun f p=>f.set p.1 p.2) fr
def ROk : Exit → Option Code → Prop
 | .normal,j=>j = none
 | .ret,j=>j = some .ret
 | .exit id,j=>j = some (.exit id)
 | _,_=>False
def Round (P : Program) (ps : Array Tmp) (assign body : Code) (fr : List AV) (args : List AV) (S : ASt) (j : Option Code) (S' : ASt) : Prop :=
 args.length = ps.size ∧ S ≠ [] ∧ awp P assign (setPs fr ps.toList args) S fun e fr1 S1=>e = .normal ∧ awp P body fr1 S1 fun e2 fr2 S2=>wkT (trim (top S) S2) S' ∧ ROk e2 j
def JQ (Q : Exit → List AV → ASt → Prop) (fr : List AV) (S : ASt) : Option Code → Prop
 | none=>Q .normal fr S
 | some .ret=>Q .ret fr S
 | some (.exit id)=>Q (.exit id) fr S
 | _=>False
def YOf (P : Program) (ps : Array Tmp) (assign body : Code) (fr : List AV) (l : Nat) (R : Option Code → List AObj) : Prop :=
 ∀ L args args' S1 j1 S2,AV.downs 2 args' = some args → Round P ps assign body fr args S1 j1 S2 → YDet P l args' (L :: R none :: S1) (B j1.isNone) (L :: R j1 :: S2)
def ARange (P : Program) (g : Operand) (ps : Array Tmp) (assign body : Code) (fr : List AV) (S : ASt) (Q : Exit → List AV → ASt → Prop) : Prop :=
 ∃ K caps,evA fr g = .fn (.func K) [] caps ∧ codeOk assign = true ∧ codeOk body = true ∧ ∃ (j : Option Code) (S' : ASt),
  (∀ (l : Nat) (R : Option Code → List AObj),YOf P ps assign body fr l R → ADet P K (.fn (.yield l) [] [] :: AV.ups 1 caps) (R none :: S) .any (R j :: S')) ∧ JQ Q fr S' j
section
variable {P : Program} {Pr : Prot} {φ : Fi2}
theorem rf_setPs : ∀ (ps : List Nat) (args : List AV) (fr : List AV) (tmps : Array Value) (xs : List Value),RF Pr φ fr { tmps:=tmps,defers:=[] } → args.length = xs.length → (∀ (j : Nat) (c : AV) (x : Value),args[j]? = some c → xs[j]? = some x → RA Pr φ c x) →
  RF Pr φ (setPs fr ps args) { tmps:=(ps.zip xs).foldl (fun t p=>t.setIfInBounds p.1 p.2) tmps,defers:=[] }
 | [],args,fr,tmps,xs,h,hl,hx=>by simpa [setPs] using h
 | p :: ps,[],fr,tmps,xs,h,hl,hx=>by
  obtain rfl : xs = []:=List.eq_nil_of_length_eq_zero hl.symm
  simpa [setPs] using h
 | p :: ps,c :: args,fr,tmps,[],h,hl,hx=>by simp at hl
 | p :: ps,c :: args,fr,tmps,x :: xs,h,hl,hx=>by
  have h1:=h.put (some p) (hx 0 c x rfl rfl)
  exact rf_setPs ps args (fr.set p c) (tmps.setIfInBounds p x) xs ⟨h1.len,h1.at_⟩ (by simpa using hl) (fun j c x a b=>hx (j + 1) c x (by simpa using a) (by simpa using b))
theorem foldl_arr (ps : Array Tmp) (xs : Array Value) (t : Array Value) : (ps.zip xs).foldl (fun t (p,v)=>t.setIfInBounds p v) t = (ps.toList.zip xs.toList).foldl (fun t p=>t.setIfInBounds p.1 p.2) t:=by
 rw [← Array.foldl_toList,Array.toList_zip]
end
def recO (fn : FuncId) (tmps : Array Value) (ps : Array Tmp) (assign body : Code) (D : Nat) (st : LoopState) (j : Option Code) : Obj :=
 .loop { state:=st,pending:=j,fn:=fn,tmps:=tmps,params:=ps,assign:=assign,body:=body,defers:=D }
def recR (fn : FuncId) (tmps : Array Value) (ps : Array Tmp) (assign body : Code) (D l : Nat) (fr : List AV) (j : Option Code) : List AObj :=
 [.raw l (recO fn tmps ps assign body D (if j.isNone then .ready else .done) j) fr tmps]
theorem rec_turn {Pr : Prot} {l1 : List Ent} {φ : Fi2} {S : ASt} {w : World} {l : Nat} {ob : Obj} (ob' : Obj) {fr : List AV} {tmps : Array Value} (h : Rel Pr (l1 :: φ) ([.raw l ob fr tmps] :: S) w) :
  Stp Pr (l1 :: φ) w Pr (l1 :: φ) (w.putObj l ob') ∧ Rel Pr (l1 :: φ) ([.raw l ob' fr tmps] :: S) (w.putObj l ob') ∧ w.heap[l]? = some ob:=by
 obtain ⟨e,he,h0,h1,h2,h3,h4,h5⟩:=h.obj 0 0 (.raw l ob fr tmps) rfl
 have hlt : l < w.heap.size:=h.lt 0 0 e l he h1
 have:=rel_setO h (ao:=.raw l ob' fr tmps) (d:=0) (i:=0) rfl he h1 h5 ob' ⟨h0,h1,by simp [hlt],h3,h4,h5⟩
 exact ⟨this.1,this.2,h2⟩
theorem rel_join {Pr : Prot} {x l : List Ent} {φ : Fi2} {X : List AObj} {S3 S2 : ASt} {w : World} {n : Nat} (h : Rel Pr (x :: l :: φ) (X :: S3) w) (hT : Rel Pr (l.take n :: φ) S2 w) (hX : ∀ (i : Nat) (o : AObj) (e : Ent),get2 (X :: S3) 0 i = some o → get2 (x :: l :: φ) 0 i = some e → RelO Pr (x :: l :: φ) w o e → RelO Pr (x :: l.take n :: φ) w o e) : Rel Pr (x :: l.take n :: φ) (X :: S2) w:=by
 have inv : ∀ d i e,get2 (x :: l.take n :: φ) d i = some e → get2 (x :: l :: φ) d i = some e:=fun d i e he=>by
  cases d with
  | zero=>exact he
  | succ d=>exact (get2_take_inv (show get2 (l.take n :: φ) d i = some e from he)).1
 refine ⟨fun d i o ho=>?_,fun d i e d' i' e' g h1 h2 h3 h4=>h.dis d i e d' i' e' g (inv _ _ _ h1) (inv _ _ _ h2) h3 h4,fun d i e g h1 h2=>h.lt d i e g (inv _ _ _ h1) h2,h.pr,fun g cs hm=>⟨(h.tb g cs hm).1,(h.tb g cs hm).2.1,(h.tb g cs hm).2.2.1,fun d i e he=>(h.tb g cs hm).2.2.2 d i e (inv _ _ _ he)⟩,by have k1:=hT.shape; have k2:=h.shape; simp only [List.map_cons,List.cons.injEq] at k2 ⊢; exact ⟨k2.1,k1⟩⟩
 cases d with
 | zero =>
  obtain ⟨e,he,hr⟩:=h.obj 0 i o ho
  exact ⟨e,he,hX i o e ho he hr⟩
 | succ d=>exact hT.obj d i o ho
theorem yof_ok {P : Program} (hm : P.follows .mixedOrders = true) {ps : Array Tmp} {assign body : Code} (hca : codeOk assign = true) (hcb : codeOk body = true) {fn : FuncId} {tmps : Array Value} {D l : Nat} {fr : List AV} :
  YOf P ps assign body fr l (recR fn tmps ps assign body D l fr):=by
 intro L args args' S1 j1 S2 hdn hround Pr φ xs w hargs hR hne
 obtain ⟨hlen,hSne,hA⟩:=hround
 have hsh:=hR.shape
 obtain ⟨lL,φ1,rfl⟩:=List.exists_cons_of_ne_nil hne
 obtain ⟨lR,φr,rfl⟩ : ∃ a b,φ1 = a :: b:=by
  cases φ1 with
  | nil=>simp at hsh
  | cons a b=>exact ⟨a,b,rfl⟩
 have hR1 : Rel Pr (lR :: φr) (recR fn tmps ps assign body D l fr none :: S1) w:=rel_pop hR
 have hR0 : Rel Pr φr S1 w:=rel_pop hR1
 obtain ⟨e,he,h0,h1,h2,h3,h4,h5⟩:=hR1.obj 0 0 (.raw l (recO fn tmps ps assign body D .ready none) fr tmps) rfl
 have h4 : ∀ (j : Nat) (c : AV) (x : Value),fr[j]? = some c → tmps[j]? = some x → RA Pr φr c x:=h4
 cases S1 with
 | nil=>exact absurd rfl hSne
 | cons L0 S0 =>
 obtain ⟨l0,φ0,rfl⟩ : ∃ a b,φr = a :: b:=by
  have:=hR0.shape
  cases φr with
  | nil=>simp at this
  | cons a b=>exact ⟨a,b,rfl⟩
 have hl0 : l0.length = L0.length:=by have:=hR0.shape; simp at this; exact this.1
 obtain ⟨hdl,hdg⟩:=downs_get 2 args' args hdn
 have hxl : xs.size = ps.size:=by rw [← hlen,hdl]; exact hargs.1.symm
 have hrf:=rf_setPs ps.toList args fr tmps xs.toList ⟨h3,h4⟩ (by rw [hdl,hargs.1]; simp) (fun j c x hc hx=>by
  obtain ⟨c0,k1,k2⟩:=hdg j c hc
  exact RA.down (k:=2) (hargs.2 j c0 x k1 (by simpa using hx)) c k2)
 have hy:=run_yield (P:=P) (args:=xs) (show w.heap[l]? = some (.loop { state:=.ready,pending:=none,fn:=fn,tmps:=tmps,params:=ps,assign:=assign,body:=body,defers:=D }) from h2) hxl
 refine ⟨fn,_,assign,body,hy,roundIn_of_wpIn (F:=Fence.wide) trivial ?_⟩
 have hA':=awp_okR hm (r:=some l) (n0:=0) assign (fun e fr1 S1=>e = .normal ∧ awp P body fr1 S1 fun e2 fr2 S2'=>wkT (trim (top (L0 :: S0)) S2') S2 ∧ ROk e2 j1) Pr (l0 :: φ0) _ _ (L0 :: S0) w hca (fun fr S h=>(by cases h.1)) hrf hR0 (by simp) hA
 rw [← foldl_arr] at hA'
 refine wpIn_mono hA' ?_
 rintro e2 a2 w2 ⟨fr2,S1',Pr2,φ2,⟨rfl,hB⟩,hf2,hr2,hs2,hd2⟩
 have hL2:=lift_rel hR1 hs2 hr2
 obtain ⟨sB,rB,hrec2⟩:=rec_turn (recO fn tmps ps assign body D .busy none) hL2
 refine ⟨_,run_beginRound hrec2 rfl,?_⟩
 have hB':=awp_okR hm (r:=some l) (n0:=0) body (fun e2 fr2 S2'=>wkT (trim (top (L0 :: S0)) S2') S2 ∧ ROk e2 j1) Pr2 φ2 fr2 a2 S1' _ hcb (fun fr S h=>h.2) hf2 (rel_pop rB) (ne_of_stp hs2 (by simp)) hB
 refine wpIn_mono hB' ?_
 rintro e3 a3 w4 ⟨fr3,S3,Pr3,φ3,⟨hw,hj⟩,hf3,hr3,hs3,hd3⟩
 have rC:=lift_rel rB hs3 hr3
 have sABC:=((lift_stp (l:=lR) hs2).trans sB).trans (lift_stp (l:=lR) hs3)
 obtain ⟨l3,φ3',rfl⟩ : ∃ a b,φ3 = a :: b:=List.exists_cons_of_ne_nil (ne_of_stp hs3 (ne_of_stp hs2 (by simp)))
 obtain ⟨L3,S3',rfl⟩ : ∃ a b,S3 = a :: b:=by
  cases S3 with
  | nil=>exact hw.elim
  | cons a b=>exact ⟨a,b,rfl⟩
 have rT : Rel Pr3 (l3.take (top (L0 :: S0)) :: φ3') S2 w4:=rel_wk (rel_trim hr3 _) (wkT_ok hw)
 have sT:=stp_trim2 sABC (n:=top (L0 :: S0)) (by rw [hl0]; exact Nat.le_refl _)
 have hflT : Fle (l0 :: φ0) (l3.take (top (L0 :: S0)) :: φ3'):=fun d i e he=>sT.fl (d + 1) i e he
 have rJ:=rel_join rC rT (fun i o e ho he hr=>by
  cases i with
  | zero =>
   cases ho
   obtain ⟨k0,k1,k2,k3,k4,k5⟩:=hr
   exact ⟨k0,k1,k2,k3,fun j c x hc hx=>(h4 j c x hc hx).mono sT.pl hflT,k5⟩
  | succ i=>cases ho)
 have fin : ∀ jj : Option Code,j1 = jj → ∃ v w',(Instr.endRound l jj).run P w4 = .ok v w' ∧ ∃ x Pr' φ',Ending.returned v = .returned x ∧ Stp Pr (lL :: lR :: l0 :: φ0) w Pr' φ' w' ∧ Rel Pr' φ' (L :: recR fn tmps ps assign body D l fr j1 :: S2) w' ∧ RA Pr' φ' (B j1.isNone) x:=by
  rintro jj rfl
  obtain ⟨sE,rE,hrec4⟩:=rec_turn (recO fn tmps ps assign body D (if j1.isNone then .ready else .done) j1) rJ
  have sF:=sT.trans sE
  exact ⟨_,_,run_endRound j1 hrec4,_,_,_,rfl,lift_stp sF,lift_rel hR sF rE,.p (.v rfl)⟩
 cases e3 with
 | normal=>exact fin none hj
 | ret=>exact fin (some .ret) hj
 | exit id=>exact fin (some (.exit id)) hj
 | goto t=>exact hj.elim
 | panic c=>exact hj.elim
 | outgrown=>exact hj.elim
end Go.Proofs.YtfiohepfohhibaaDoor
namespace Go.Proofs.YtfiohepfohhibaaDoor
open Go.RowKit
inductive Marks (lo : Nat) (φ : Fi2) (w : World) : List Deferred → Prop
 | nil : Marks lo φ w []
 | cons {D : Nat} {ds : List Deferred} : lo ≤ D → w.heap[D]? = some (.deferred (some [])) → (∀ d i e,get2 φ d i = some e → e.blk ≠ some D) → (∀ d ∈ ds,d.target ≠ .collected D) → Marks lo φ w ds → Marks lo φ w ({ target:=.collected D,args:=#[] } :: ds)
theorem Marks.mono {φ φ' : Fi2} {w w' : World} {lo : Nat} {ds : List Deferred} (h : Marks lo φ w ds) (hk : ∀ D,(∀ d i e,get2 φ d i = some e → e.blk ≠ some D) → w.heap[D]? = some (.deferred (some [])) → { target:=.collected D,args:=#[] } ∈ ds → w'.heap[D]? = some (.deferred (some [])) ∧ ∀ d i e,get2 φ' d i = some e → e.blk ≠ some D)   : Marks lo φ' w' ds:=by
 induction h with
 | nil=>exact .nil
 | cons h0 h1 h2 h3 _ ih =>
  obtain ⟨k1,k2⟩:=hk _ h2 h1 List.mem_cons_self
  exact .cons h0 k1 k2 h3 (ih fun D a b c=>hk D a b (List.mem_cons_of_mem _ c))
theorem Marks.stp {Pr Pr' : Prot} {φ φ' : Fi2} {w w' : World} {lo : Nat} {ds : List Deferred} (h : Marks lo φ w ds) (hs : Stp Pr φ w Pr' φ' w')   : Marks lo φ' w' ds:=h.mono fun D h1 h2 _=>by
 have hlt : D < w.heap.size:=(Array.getElem?_eq_some_iff.1 h2).1
 refine ⟨(hs.fr.block D hlt h1).trans h2,fun d i e he hg=>?_⟩
 rcases hs.fresh d i e D he hg with ⟨d0,i0,e0,k1,k2⟩ | k1
 ·exact h1 d0 i0 e0 k1 k2
 ·omega
theorem Marks.size {φ : Fi2} {w : World} {lo : Nat} {ds : List Deferred} (h : Marks lo φ w ds) : ∀ d ∈ ds,d.target ≠ .collected w.heap.size:=by
 induction h with
 | nil=>intro d hd; cases hd
 | cons _ h1 _ _ _ ih =>
  intro d hd
  rcases List.mem_cons.1 hd with rfl | hd
  ·intro e
   cases e
   have:=(Array.getElem?_eq_some_iff.1 h1).1
   omega
  ·exact ih d hd
def PostQ (lo : Nat) (Pr : Prot) (φ : Fi2) (w : World) (Q : Exit → List AV → ASt → Prop) : Exit → Act → World → Prop:=fun e a' w' =>
 ∃ fr' S' Pr' φ',Q e fr' S' ∧ RF Pr' φ' fr' a' ∧ Rel Pr' φ' S' w' ∧ Stp Pr φ w Pr' φ' w' ∧ Marks lo φ' w' a'.defers
theorem PostQ.of {lo : Nat} {Pr : Prot} {φ : Fi2} {a : Act} {w : World} {Q : Exit → List AV → ASt → Prop} (hm : Marks lo φ w a.defers) {e : Exit} {a' : Act} {w' : World} (h : Post Pr φ a w Q e a' w') : PostQ lo Pr φ w Q e a' w':=by
 obtain ⟨fr',S',Pr',φ',h1,h2,h3,h4,h5⟩:=h
 exact ⟨fr',S',Pr',φ',h1,h2,h3,h4,by rw [h5]; exact hm.stp h4⟩
def awq (P : Program) : Code → List AV → ASt → (Exit → List AV → ASt → Prop) → Prop
 | .skip,fr,S,Q=>Q .normal fr S
 | .region _ ops draw,fr,S,Q=>if draw = true then ARegion P ops fr S Q else awpY P ops ops.toList fr S (Q .normal)
 | .seq a b,fr,S,Q=>awq P a fr S fun e fr S =>
  match e with
  | .normal=>awq P b fr S Q
  | e=>Q e fr S
 | .cond c t e,fr,S,Q =>
  match evA fr c with
  | .p (.v (.bool b))=>if b = true then awq P t fr S Q else awq P e fr S Q
  | .bl=>awq P t fr S Q ∧ awq P e fr S Q
  | _=>False
 | .block id body,fr,S,Q=>awq P body fr S fun e fr S =>
  match e with
  | .exit j=>if j = id then Q .normal fr S else Q (.exit j) fr S
  | e=>Q e fr S
 | .loop body,fr,S,Q=>ALoop (awq P body) fr S Q
 | .exit id,fr,S,Q=>Q (.exit id) fr S
 | .label _,fr,S,Q=>Q .normal fr S
 | .ret,fr,S,Q=>Q .ret fr S
 | .rangeFunc g ps assign body,fr,S,Q=>ARange P g ps assign body fr S Q
 | .scope body,fr,S,Q=>awq P body fr S fun e fr S =>
  match e with
  | .goto _=>False
  | e=>Q e fr S
 | _,_,_,_=>False
section
variable {P : Program} {b : Frame} {a : Act} {k : List Item} {cs : List Frame} {w : World} {F : Fence} {n : Nat} {Q : Exit → Act → World → Prop}
theorem stepR_scope {c : Code} : step P (lone (b.atR a (.code (.scope c) :: k)) cs w) = .next (lone (b.atR a (.code c :: .inScope c :: k)) cs w) :=
 step_lone_go (by simp [stepG,stepG.exec,Frame.atR])
theorem stepR_inScope {c : Code} : step P (lone (b.atR a (.inScope c :: k)) cs w) = .next (lone (b.atR a k) cs w) :=
 step_lone_go (by simp [stepG,stepG.exec,Frame.atR])
theorem wpIn_scope {c : Code} (h : c.wpIn F n P (Exit.noGoto Q) a w) : (Code.scope c).wpIn F n P Q a w:=by
 intro b k cs hro hb hr
 have h0 : (lone (b.atR a (.code (.scope c) :: k)) cs w).fenced P F:=fenced_calm hb hr rfl
 obtain ⟨e,a₁,w₁,hq,harr⟩:=h b (.inScope c :: k) cs hro hb hr
 cases e with
 | normal=>exact ⟨.normal,a₁,w₁,hq,.head h0 stepR_scope (StepsIn.trans harr (.one (fenced_calm hb hr rfl) stepR_inScope))⟩
 | exit id =>
  have hx : exitTo id (.inScope c :: k) = exitTo id k:=by simp [exitTo]
  exact ⟨.exit id,a₁,w₁,hq,fun k' hk=>.head h0 stepR_scope (harr.1 k' (by rw [hx]; exact hk)),
   fun hr' hk=>let ⟨k₁,h1,h2⟩:=harr.2 hr' (by rw [hx]; exact hk); ⟨k₁,h1,.head h0 stepR_scope h2⟩⟩
 | goto l=>exact hq.elim
 | ret=>exact ⟨_,a₁,w₁,hq,.of_steps (.one h0 stepR_scope) harr⟩
 | panic ch=>exact ⟨_,a₁,w₁,hq,.of_steps (.one h0 stepR_scope) harr⟩
 | outgrown=>exact ⟨_,a₁,w₁,hq,.of_steps (.one h0 stepR_scope) harr⟩
end
theorem rel_loop {Pr : Prot} {φ : Fi2} {S : ASt} {w : World} (h : Rel Pr φ S w) {fr : List AV} {a : Act} (hf : RF Pr φ fr a) (ob0 ob : Obj) : ∃ e : Ent,e.blk = some (w.heap.size + 1) ∧ Rel Pr ([e] :: φ) ([.raw (w.heap.size + 1) ob fr a.tmps] :: S) ((w.alloc ob0).alloc ob) ∧ Stp Pr φ w Pr φ ((w.alloc ob0).alloc ob) ∧ (∀ d i e',get2 ([e] :: φ) d i = some e' → e'.blk ≠ some w.heap.size):=by
 have hs0 : Stp Pr φ w Pr φ ((w.alloc ob0).alloc ob):=⟨Prot.le_refl _,Fle.refl _,fun d i e g he hg=>.inl ⟨d,i,e,he,hg⟩,⟨rfl,rfl,rfl,by simp; omega,fun g hg _=>by
  rw [Below.heap_alloc _ _ _ (by simp; omega),Below.heap_alloc _ _ _ hg]⟩,rfl,fun g o h k=>absurd h k⟩
 have hpn : ∀ g o,w.heap.size ≤ g → Pr g o = none:=fun g o hg=>by
  cases hv : Pr g o with
  | none=>rfl
  | some v=>have:=pr_lt h hv; omega
 have hlt : ∀ d i e g,get2 φ d i = some e → e.blk = some g → g < w.heap.size:=h.lt
 have hcell : ∀ b o v,w.cell? ⟨b,o,none⟩ = some v → ((w.alloc ob0).alloc ob).cell? ⟨b,o,none⟩ = some v:=fun b o v hv=>by
  have hl:=lt_of_cell hv
  rw [World.cell?_alloc_lt _ _ _ (by simp; omega),World.cell?_alloc_lt _ _ _ hl]; exact hv
 refine ⟨⟨false,some (w.heap.size + 1),0,0,0⟩,rfl,⟨fun d i o ho=>?_,fun d i e d' i' e' g h1 h2 h3 h4=>?_,fun d i e g h1 h2=>?_,fun b o v hv=>hcell b o v (h.pr b o v hv),fun g cs hm=>?_,by simp [h.shape]⟩,hs0,fun d i e' he=>?_⟩
 ·cases d with
  | zero =>
   cases i with
   | zero =>
    cases ho
    refine ⟨_,rfl,rfl,rfl,?_,hf.len,fun j c x hc hx=>hf.at_ j c x hc hx,fun o=>hpn _ o (by omega)⟩
    have:=World.alloc_heap_new (w.alloc ob0) ob
    rwa [World.size_alloc] at this
   | succ i=>cases ho
  | succ d =>
   obtain ⟨e,he,hr⟩:=h.obj d i o ho
   exact ⟨e,he,hr.keep (Prot.le_refl _) (Fle.refl _) fun g hg=>⟨by
    have:=h.lt d i e g he hg
    rw [Below.heap_alloc _ _ _ (by simp; omega),Below.heap_alloc _ _ _ this],fun _ h=>h⟩⟩
 ·have one : ∀ {i e},get2 ([⟨false,some (w.heap.size + 1),0,0,0⟩] :: φ : Fi2) 0 i = some e → i = 0 ∧ e.blk = some (w.heap.size + 1):=fun {i e} he=>by
   cases i with
   | zero=>cases he; exact ⟨rfl,rfl⟩
   | succ i=>cases he
  cases d with
  | zero =>
   obtain ⟨rfl,hb⟩:=one h1
   rw [hb] at h3; cases h3
   cases d' with
   | zero=>exact ⟨rfl,(one h2).1.symm⟩
   | succ d'=>have:=hlt d' i' e' _ h2 h4; omega
  | succ d =>
   cases d' with
   | zero =>
    obtain ⟨rfl,hb⟩:=one h2
    rw [hb] at h4; cases h4
    have:=hlt d i e _ h1 h3; omega
   | succ d' =>
    have:=h.dis d i e d' i' e' g h1 h2 h3 h4
    exact ⟨by omega,this.2⟩
 ·cases d with
  | zero =>
   cases i with
   | zero=>cases h1; cases h2; simp
   | succ i=>cases h1
  | succ d=>have:=h.lt d i e g h1 h2; simp; omega
 ·obtain ⟨k1,k2,⟨t,fz,k3⟩,k4⟩:=h.tb g cs hm
  have hg:=blk_lt k3
  refine ⟨k1,k2,⟨t,fz,by rw [Below.heap_alloc _ _ _ (by simp; omega),Below.heap_alloc _ _ _ hg]; exact k3⟩,fun d i e he=>?_⟩
  cases d with
  | zero =>
   cases i with
   | zero=>cases he; simp; omega
   | succ i=>cases he
  | succ d=>exact k4 d i e he
 ·cases d with
  | zero =>
   cases i with
   | zero=>cases he; simp
   | succ i=>cases he
  | succ d=>intro hb; have:=h.lt d i e' _ he hb; omega
end Go.Proofs.YtfiohepfohhibaaDoor
namespace Go.Proofs.YtfiohepfohhibaaDoor
open Go.RowKit
theorem stp_drop {Pr Pr' : Prot} {e : Ent} {l' : List Ent} {φ φ' : Fi2} {w w1 w' : World} {g0 : Nat} (he0 : e.blk = some g0) (hg0 : w.heap.size ≤ g0) (s1 : Stp Pr φ w Pr φ w1) (s2 : Stp Pr ([e] :: φ) w1 Pr' (l' :: φ') w') : Stp Pr φ w Pr' φ' w':=by
 have one : ∀ {i e'},get2 ([e] :: φ) 0 i = some e' → e'.blk = some g0:=fun {i e'} he=>by
  cases i with
  | zero=>cases he; exact he0
  | succ i=>cases he
 refine ⟨s2.pl,fun d i e he=>s2.fl (d + 1) i e he,fun d i e' g he hg=>?_,⟨s2.fr.os.trans s1.fr.os,s2.fr.tape.trans s1.fr.tape,s2.fr.output.trans s1.fr.output,Nat.le_trans s1.fr.size s2.fr.size,fun g hg hn=>?_⟩,by have:=s2.len; simpa using this,fun g o h0 h1=>?_⟩
 ·rcases s2.fresh (d + 1) i e' g he hg with ⟨d0,i0,e0,h1,h2⟩ | h1
  ·cases d0 with
   | zero=>rw [one h1] at h2; cases h2; exact .inr hg0
   | succ d0=>exact .inl ⟨d0,i0,e0,h1,h2⟩
  ·exact .inr (Nat.le_trans s1.fr.size h1)
 ·rw [s2.fr.block g (Nat.lt_of_lt_of_le hg s1.fr.size) fun d i e' he=>?_]
  ·exact s1.fr.block g hg hn
  ·cases d with
   | zero=>rw [one he]; intro h; cases h; omega
   | succ d=>exact hn d i e' he
 ·rcases s2.pn g o h0 h1 with ⟨d0,i0,e0,h1,h2⟩ | h1
  ·cases d0 with
   | zero=>rw [one h1] at h2; cases h2; exact .inr hg0
   | succ d0=>exact .inl ⟨d0,i0,e0,h1,h2⟩
  ·exact .inr (Nat.le_trans s1.fr.size h1)
theorem PostQ.trans {lo : Nat} {Pr Pr1 : Prot} {φ φ1 : Fi2} {w w1 : World} {Q : Exit → List AV → ASt → Prop} (h : Stp Pr φ w Pr1 φ1 w1) (e : Exit) (a' : Act) (w' : World) (hp : PostQ lo Pr1 φ1 w1 Q e a' w') : PostQ lo Pr φ w Q e a' w':=by
 obtain ⟨fr',S',Pr',φ',h1,h2,h3,h4,h5⟩:=hp
 exact ⟨fr',S',Pr',φ',h1,h2,h3,h.trans h4,h5⟩
theorem awq_range {P : Program} (hm : P.follows .mixedOrders = true) {lo n0 : Nat} {g : Operand} {ps : Array Tmp} {assign body : Code} {Q : Exit → List AV → ASt → Prop} {Pr : Prot} {φ : Fi2} {fr : List AV} {a : Act} {S : ASt} {w : World} (hlo : lo ≤ w.heap.size) (h : RF Pr φ fr a) (hR : Rel Pr φ S w) (hne : φ ≠ []) (hmk : Marks lo φ w a.defers) (hk : ARange P g ps assign body fr S Q) : (Code.rangeFunc g ps assign body).wpIn (Wd none) n0 P (PostQ lo Pr φ w Q) a w:=by
 obtain ⟨K,caps,hg,hca,hcb,j,S',hit,hj⟩:=hk
 have hgv:=h.ev g
 rw [hg] at hgv
 generalize hy : a.eval g = y at hgv
 cases hgv with
 | @fn _ _ _ xs ys l1 l2 c1 c2 =>
 obtain rfl : xs = #[]:=Array.eq_empty_of_size_eq_zero l1.symm
 refine wpIn_rangeFunc fun fn _=>?_
 obtain ⟨e,he,hR1,s1,hD⟩:=rel_loop hR h (.deferred (some [])) (recO fn a.tmps ps assign body w.heap.size .ready none)
 have hd:=hit (w.heap.size + 1) (recR fn a.tmps ps assign body w.heap.size (w.heap.size + 1) fr) (yof_ok hm hca hcb)
 refine ⟨w.heap.size + 1,[{ target:=.collected w.heap.size,args:=#[] }],((w.alloc (.deferred (some []))).alloc (recO fn a.tmps ps assign body w.heap.size .ready none)),{ target:=.fn (.func K) ys,args:=#[.func (.yield (w.heap.size + 1)) #[] #[]] },((w.alloc (.deferred (some []))).alloc (recO fn a.tmps ps assign body w.heap.size .ready none)),K,#[.func (.yield (w.heap.size + 1)) #[] #[]] ++ ys,((w.alloc (.deferred (some []))).alloc (recO fn a.tmps ps assign body w.heap.size .ready none)),run_enterLoop_outer _ _ _ _ _,?_,fun _ _=>trivial,?_,fun h=>(by cases h),?_⟩
 ·simp [resolve,hy,Deferred.ofValue]
  rfl
 ·simp [invoke,hd.1]
 refine (calls_wd (hd.2 Pr _ _ _ ?_ hR1 (by simp))).mono ?_
 ·refine ⟨by simp [ups_len,l2]; omega,fun t c x hc hx=>?_⟩
  cases t with
  | zero =>
   cases hc
   rw [Array.getElem?_append_left (by simp)] at hx
   cases hx
   exact .fn rfl rfl (fun j c x hc=>by simp at hc) (fun j c x hc=>by simp at hc)
  | succ t =>
   rw [Array.getElem?_append_right (by simp)] at hx
   simp only [List.getElem?_cons_succ,ups_get] at hc
   obtain ⟨c0,h0,rfl⟩:=Option.map_eq_some_iff.1 hc
   exact RA.up (k:=1) (φ:=[e] :: φ) (c2 t c0 x h0 (by simpa using hx))
 rintro e3 w3 ⟨x,Pr',φ',rfl,s2,hR3,_⟩
 obtain ⟨lI,φt,rfl⟩:=List.exists_cons_of_ne_nil (ne_of_stp s2 (by simp))
 obtain ⟨sE,rE,hrec⟩:=rec_turn (recO fn a.tmps ps assign body w.heap.size .exhausted j) hR3
 have s2E:=s2.trans sE
 have sT:=stp_drop he (by omega) s1 s2E
 have hmk1 : Marks lo ([e] :: φ) ((w.alloc (.deferred (some []))).alloc (recO fn a.tmps ps assign body w.heap.size .ready none)) ({ target:=.collected w.heap.size,args:=#[] } :: a.defers):=by
  refine .cons hlo ?_ hD hmk.size (hmk.mono fun D h1 h2 _=>?_)
  ·rw [Below.heap_alloc _ _ _ (by simp)]; exact World.alloc_heap_new w _
  ·have hlt:=(Array.getElem?_eq_some_iff.1 h2).1
   refine ⟨(s1.fr.block D hlt h1).trans h2,fun d i e' he'=>?_⟩
   cases d with
   | zero =>
    cases i with
    | zero=>cases he'; rw [he]; intro h; cases h; omega
    | succ i=>cases he'
   | succ d=>exact h1 d i e' he'
 have hmk2 : Marks lo φt (w3.putObj (w.heap.size + 1) (recO fn a.tmps ps assign body w.heap.size .exhausted j)) ({ target:=.collected w.heap.size,args:=#[] } :: a.defers) :=
  (hmk1.stp s2E).mono fun D h1 h2 _=>⟨h2,fun d i e' he'=>h1 (d + 1) i e' he'⟩
 have hfr : RF Pr' φt fr { a with defers:={ target:=.collected w.heap.size,args:=#[] } :: a.defers }:=⟨h.len,(h.mono sT.pl sT.fl).at_⟩
 refine ⟨j,_,run_endLoop hrec (by cases j <;> simp),?_⟩
 cases j with
 | none=>exact ⟨fr,S',Pr',φt,hj,hfr,rel_pop rE,sT,hmk2⟩
 | some c =>
  cases c with
  | ret=>exact wpIn_ret ⟨fr,S',Pr',φt,hj,hfr,rel_pop rE,sT,hmk2⟩
  | exit id=>exact wpIn_exit ⟨fr,S',Pr',φt,hj,hfr,rel_pop rE,sT,hmk2⟩
  | _=>exact hj.elim
theorem awq_ok {P : Program} (hm : P.follows .mixedOrders = true) {lo n0 : Nat} : ∀ (c : Code) (Q : Exit → List AV → ASt → Prop) (Pr : Prot) (φ : Fi2) (fr : List AV) (a : Act) (S : ASt) (w : World),codeOk c = true → (∀ fr S,¬ Q .outgrown fr S) → lo ≤ w.heap.size → RF Pr φ fr a → Rel Pr φ S w → φ ≠ [] → Marks lo φ w a.defers → awq P c fr S Q → c.wpIn (Wd none) n0 P (PostQ lo Pr φ w Q) a w
 | .skip,Q,Pr,φ,fr,a,S,w,hc,hQ,hlo,h,hR,hne,hmk,hk=>wpIn_skip ⟨fr,S,Pr,φ,hk,h,hR,Stp.refl _ _ _,hmk⟩
 | .label l,Q,Pr,φ,fr,a,S,w,hc,hQ,hlo,h,hR,hne,hmk,hk=>wpIn_label ⟨fr,S,Pr,φ,hk,h,hR,Stp.refl _ _ _,hmk⟩
 | .exit id,Q,Pr,φ,fr,a,S,w,hc,hQ,hlo,h,hR,hne,hmk,hk=>wpIn_exit ⟨fr,S,Pr,φ,hk,h,hR,Stp.refl _ _ _,hmk⟩
 | .ret,Q,Pr,φ,fr,a,S,w,hc,hQ,hlo,h,hR,hne,hmk,hk=>wpIn_ret ⟨fr,S,Pr,φ,hk,h,hR,Stp.refl _ _ _,hmk⟩
 | .region id ops draw,Q,Pr,φ,fr,a,S,w,hc,hQ,hlo,h,hR,hne,hmk,hk=>by
  cases draw with
  | true =>
   have hk' : ARegion P ops fr S Q:=hk
   obtain ⟨s1,r1⟩:=rel_drew hR (w.drawn + 1)
   exact wpIn_mono (wpIn_region_any hm (any_wd (opsOk hc) (post_in hQ) _ _ _ _ (hk' Pr φ a w Pr φ a _ h r1 hne s1 rfl))) fun e a' w' hp=>PostQ.of hmk hp
  | false =>
   have hk' : awpY P ops ops.toList fr S (Q .normal):=hk
   refine wpIn_mono (wpIn_region ?_) fun e a' w' hp=>PostQ.of hmk hp
   have:=awpY_ok (r:=none) (n:=n0) (opsOk hc) (Q:=Q) (fun _ _ h=>h) ops.toList 0 rfl Pr φ fr a S w h hR hne (Stp.refl _ _ _) rfl hk'
   rwa [List.range_eq_range',← Array.length_toList]
 | .seq x y,Q,Pr,φ,fr,a,S,w,hc,hQ,hlo,h,hR,hne,hmk,hk=>by
  rw [codeOk,Bool.and_eq_true] at hc
  refine wpIn_seq (wpIn_mono (awq_ok hm x (fun e fr S=>match e with | .normal=>awq P y fr S Q | e=>Q e fr S) Pr φ fr a S w hc.1 (fun fr S=>hQ fr S) hlo h hR hne hmk hk) fun e a' w' hp=>?_)
  obtain ⟨fr',S',Pr',φ',h1,h2,h3,h4,h5⟩:=hp
  cases e with
  | normal=>exact wpIn_mono (awq_ok hm y Q Pr' φ' fr' a' S' w' hc.2 hQ (Nat.le_trans hlo h4.fr.size) h2 h3 (ne_of_stp h4 hne) h5 h1) fun e a'' w'' hp=>PostQ.trans h4 e a'' w'' hp
  | _=>exact ⟨fr',S',Pr',φ',h1,h2,h3,h4,h5⟩
 | .cond c t e,Q,Pr,φ,fr,a,S,w,hc,hQ,hlo,h,hR,hne,hmk,hk=>by
  rw [codeOk,Bool.and_eq_true] at hc
  simp only [awq] at hk
  split at hk
  ·rename_i b hb
   have hc':=atomAV_ok (h.ev c) (by rw [hb]; rfl)
   refine wpIn_cond hc' ?_
   cases b with
   | true=>exact awq_ok hm t Q Pr φ fr a S w hc.1 hQ hlo h hR hne hmk hk
   | false=>exact awq_ok hm e Q Pr φ fr a S w hc.2 hQ hlo h hR hne hmk hk
  ·rename_i hb
   have hc':=h.ev c
   rw [hb] at hc'
   generalize hy : a.eval c = y at hc'
   cases hc' with
   | bl b =>
    refine wpIn_cond hy ?_
    cases b with
    | true=>exact awq_ok hm t Q Pr φ fr a S w hc.1 hQ hlo h hR hne hmk hk.1
    | false=>exact awq_ok hm e Q Pr φ fr a S w hc.2 hQ hlo h hR hne hmk hk.2
  ·exact hk.elim
 | .block id body,Q,Pr,φ,fr,a,S,w,hc,hQ,hlo,h,hR,hne,hmk,hk=>by
  refine wpIn_block (wpIn_mono (awq_ok hm body (fun e fr S=>match e with | .exit j=>if j = id then Q .normal fr S else Q (.exit j) fr S | e=>Q e fr S) Pr φ fr a S w hc (fun fr S=>hQ fr S) hlo h hR hne hmk hk) fun e a' w' hp=>?_)
  obtain ⟨fr',S',Pr',φ',h1,h2,h3,h4,h5⟩:=hp
  cases e with
  | exit j =>
   simp only [Exit.inBlock]
   simp only at h1
   split
   ·rename_i hj
    rw [if_pos hj] at h1
    exact ⟨fr',S',Pr',φ',h1,h2,h3,h4,h5⟩
   ·rename_i hj
    rw [if_neg hj] at h1
    exact ⟨fr',S',Pr',φ',h1,h2,h3,h4,h5⟩
  | _=>exact ⟨fr',S',Pr',φ',h1,h2,h3,h4,h5⟩
 | .loop body,Q,Pr,φ,fr,a,S,w,hc,hQ,hlo,h,hR,hne,hmk,hk=>by
  obtain ⟨α,I,F,G,μ,a0,n,hI,hw,hn,hb⟩:=hk
  obtain ⟨φs,s0,hfs,hRs,hts⟩:=hw Pr φ a w h hR hne
  have hn2 : top φs = top (G a0):=top_map hRs.shape
  refine wpIn_loop_ghost (fun k a1 w1=>∃ m Pr1 φ1,I m ∧ μ m = k ∧ RF Pr1 φ1 (F m) a1 ∧ Rel Pr1 φ1 (G m) w1 ∧ Stp Pr φ w Pr1 φ1 w1 ∧ Marks lo φ1 w1 a1.defers) (μ a0) ⟨a0,Pr,φs,hI,rfl,hfs,hRs,s0,hmk.stp s0⟩ ?_
  rintro k a1 w1 ⟨m,Pr1,φ1,hIm,rfl,hf,hr,hs,hd⟩
  refine wpIn_mono (awq_ok hm body (LoopN I F G μ (μ m) n Q) Pr1 φ1 (F m) a1 (G m) w1 hc (fun fr S=>hQ fr S) (Nat.le_trans hlo hs.fr.size) hf hr (ne_of_stp hs hne) hd (hb m hIm)) fun e a2 w2 hp=>?_
  obtain ⟨fr',S',Pr2,φ2,h1,h2,h3,h4,h5⟩:=hp
  cases e with
  | normal =>
   obtain ⟨m',hI',hlt,hwf,hws⟩:=h1
   have hs2:=hs.trans h4
   have hne2 : φ2 ≠ []:=ne_of_stp hs2 hne
   obtain ⟨l2,φr,rfl⟩:=List.exists_cons_of_ne_nil hne2
   obtain ⟨l0,φ0,rfl⟩:=List.exists_cons_of_ne_nil hne
   have hS' : S' ≠ []:=fun h0=>by have:=h3.shape; rw [h0] at this; simp at this
   obtain ⟨L',SR,rfl⟩:=List.exists_cons_of_ne_nil hS'
   have hl0 : l0.length ≤ n m':=Nat.le_trans (Nat.le_trans hts (Nat.le_of_eq hn2)) (hn m' hI')
   have hf2 : RF Pr2 (l2.take (n m') :: φr) (AV.cuts (n m') fr') a2:=⟨by rw [cuts_len]; exact h2.len,fun t c x hc hx=>by
    rw [cuts_get] at hc
    obtain ⟨c0,h0,rfl⟩:=Option.map_eq_some_iff.1 hc
    exact (h2.at_ t c0 x h0 hx).cut⟩
   exact ⟨μ m',hlt,m',Pr2,l2.take (n m') :: φr,hI',rfl,hf2.wk (wkR_ok hwf),rel_wk (rel_trim h3 (n m')) (wkT_ok hws),stp_trim hs2 hl0,h5.mono fun D k1 k2 _=>⟨k2,fun d i e' he'=>k1 d i e' (get2_take_inv he').1⟩⟩
  | _=>exact ⟨fr',S',Pr2,φ2,h1,h2,h3,hs.trans h4,h5⟩
 | .rangeFunc g ps assign body,Q,Pr,φ,fr,a,S,w,hc,hQ,hlo,h,hR,hne,hmk,hk=>awq_range hm hlo h hR hne hmk hk
 | .scope body,Q,Pr,φ,fr,a,S,w,hc,hQ,hlo,h,hR,hne,hmk,hk=>by
  refine wpIn_scope (wpIn_mono (awq_ok hm body (fun e fr S=>match e with | .goto _=>False | e=>Q e fr S) Pr φ fr a S w hc (fun fr S=>hQ fr S) hlo h hR hne hmk hk) fun e a' w' hp=>?_)
  obtain ⟨fr',S',Pr',φ',h1,h2,h3,h4,h5⟩:=hp
  cases e with
  | goto t=>exact h1.elim
  | _=>exact ⟨fr',S',Pr',φ',h1,h2,h3,h4,h5⟩
 | .goto _,Q,Pr,φ,fr,a,S,w,hc,hQ,hlo,h,hR,hne,hmk,hk=>hk.elim
 | .refuse _,Q,Pr,φ,fr,a,S,w,hc,hQ,hlo,h,hR,hne,hmk,hk=>hk.elim
end Go.Proofs.YtfiohepfohhibaaDoor
namespace Go.Proofs.YtfiohepfohhibaaDoor
open Go.RowKit
theorem rel_put {Pr : Prot} {φ : Fi2} {S : ASt} {w : World} (h : Rel Pr φ S w) {D : Nat} {ob : Obj} (hD : w.heap[D]? = some (.deferred (some []))) (hun : ∀ d i e,get2 φ d i = some e → e.blk ≠ some D) : Rel Pr φ S (w.putObj D ob):=by
 have hfar : ∀ g,g ≠ D → (w.putObj D ob).heap[g]? = w.heap[g]?:=fun g hg=>World.putObj_heap_other hg
 refine ⟨fun d i o ho=>?_,h.dis,fun d i e g h1 h2=>by rw [World.putObj_size]; exact h.lt d i e g h1 h2,fun b o v hv=>?_,fun g cs hm=>?_,h.shape⟩
 ·obtain ⟨e,he,hr⟩:=h.obj d i o ho
  exact ⟨e,he,hr.keep (Prot.le_refl _) (Fle.refl _) fun g hg=>⟨hfar g fun hgd=>hun d i e he (by rw [← hgd]; exact hg),fun _ h=>h⟩⟩
 ·have hc:=h.pr b o v hv
  have hb : b ≠ D:=by
   rintro rfl
   simp [World.cell?,hD] at hc
  rw [World.cell?_of_block (a:=⟨b,o,none⟩) (hfar b hb)]
  exact hc
 ·obtain ⟨k1,k2,⟨t,fz,k3⟩,k4⟩:=h.tb g cs hm
  have hg : g ≠ D:=by
   rintro rfl
   rw [hD] at k3; cases k3
  exact ⟨k1,k2,⟨t,fz,(hfar g hg).trans k3⟩,k4⟩
theorem stp_put {Pr0 Pr : Prot} {φ0 φ : Fi2} {w0 w : World} (h : Stp Pr0 φ0 w0 Pr φ w) {D : Nat} (ob : Obj) (hD : w0.heap.size ≤ D) : Stp Pr0 φ0 w0 Pr φ (w.putObj D ob) :=
 ⟨h.pl,h.fl,h.fresh,⟨h.fr.os,h.fr.tape,h.fr.output,by rw [World.putObj_size]; exact h.fr.size,fun g hg hn=>by
  rw [World.putObj_heap_other (by omega)]; exact h.fr.block g hg hn⟩,h.len,h.pn⟩
theorem leaves_marks {P : Program} {fn : Func} {tmps : Array Value} {R : Ending → World → Prop} {Pr0 : Prot} {φ0 : Fi2} {w0 : World} {Pr : Prot} {φ : Fi2} {S : ASt} (hfin : ∀ w,Rel Pr φ S w → Stp Pr0 φ0 w0 Pr φ w → LeavesIn (Wd none) 0 P fn tmps R [] .returning w) : ∀ (ds : List Deferred) (w : World),Marks w0.heap.size φ w ds → Rel Pr φ S w → Stp Pr0 φ0 w0 Pr φ w → LeavesInM (Wd none) 0 P fn tmps R ds .returning w
 | [],w,hm,hR,hs=>hfin w hR hs
 | d :: ds,w,hm,hR,hs=>by
  cases hm with
  | @cons D _ h0 h1 h2 h3 h4 =>
  refine ⟨by simp,.inl ⟨D,_,rfl,run_takeDeferred h1,?_⟩⟩
  refine leaves_marks hfin ds _ (h4.mono fun D' k1 k2 k3=>⟨?_,k1⟩) (rel_put hR h1 h2) (stp_put hs _ h0)
  have : D' ≠ D:=by
   rintro rfl
   exact h3 _ k3 rfl
  rw [World.putObj_heap_other this]; exact k2
theorem ADet.introQ {P : Program} {K : FuncId} {args : List AV} {S S' : ASt} {r : AV} {fn : Func} {c : Code} (hm : P.follows .mixedOrders = true) (hK : ∀ xs w,(callFunc K xs).run P w = .ok (.enter K xs) w) (hf : P.funcs[K]? = some fn) (hb : fn.body = some c) (hok : codeOk c = true)
  (h : awq P c (AV.ups 1 args ++ List.replicate (fn.ntmps - args.length) .un) ([] :: S) (RetOk P fn.results.toList r S')) : ADet P K args S r S':=by
 refine ⟨hK,fun Pr φ xs w hargs hR hne=>?_⟩
 refine (callsIn_wide (n:=0)).1 (callsIn_of_wp_marks (F:=Wd none) hf hb trivial ?_)
 have hfr : RF Pr ([] :: φ) (AV.ups 1 args ++ List.replicate (fn.ntmps - args.length) .un) { tmps:=xs ++ Array.replicate (fn.ntmps - xs.size) undef,defers:=[] }:=by
  refine ⟨by simp [ups_len,hargs.1],fun t v x hv hx=>?_⟩
  rcases Nat.lt_or_ge t args.length with ht | ht
  ·rw [List.getElem?_append_left (by rw [ups_len]; exact ht),ups_get] at hv
   obtain ⟨v0,h0,rfl⟩:=Option.map_eq_some_iff.1 hv
   simp only at hx
   rw [Array.getElem?_append_left (by rw [← hargs.1]; exact ht)] at hx
   exact RA.up (k:=1) (hargs.2 t v0 x h0 hx)
  ·rw [List.getElem?_append_right (by rw [ups_len]; exact ht)] at hv
   simp only at hx
   rw [Array.getElem?_append_right (by rw [← hargs.1]; exact ht)] at hx
   rw [List.getElem?_replicate] at hv
   rw [Array.getElem?_replicate] at hx
   split at hv
   ·split at hx
    ·cases hv; cases hx; exact .un
    ·cases hx
   ·cases hv
 refine wpIn_mono (awq_ok hm (lo:=w.heap.size) c _ Pr ([] :: φ) _ _ ([] :: S) w hok (fun fr S h=>by rcases h.1 with h | h <;> cases h) (Nat.le_refl _) hfr (rel_push hR) (by simp) .nil h) fun e a' w' hp=>?_
 obtain ⟨fr',S1,Pr',φ',⟨he,vs,h1,h2,h3⟩,h4,h5,h6,h7⟩:=hp
 have key : LeavesInM (Wd none) 0 P fn a'.tmps (fun e w'=>∃ x Pr' φ',e = .returned x ∧ Stp Pr φ w Pr' φ' w' ∧ Rel Pr' φ' S' w' ∧ RA Pr' φ' r x) a'.defers .returning w':=by
  refine leaves_marks (Pr0:=Pr) (φ0:=[] :: φ) (w0:=w) (Pr:=Pr') (φ:=φ') (S:=S1) (fun wF hRF hsF=>?_) a'.defers w' h7 h5 h6
  obtain ⟨x,hx,hrun⟩:=results_ok (P:=P) (fn:=fn) h4 hRF h1
  have hne' : φ' ≠ []:=ne_of_stp hsF (by simp)
  obtain ⟨l',φ1,rfl⟩:=List.exists_cons_of_ne_nil hne'
  have hS1 : S1 ≠ []:=fun h0=>by have:=hRF.shape; rw [h0] at this; simp at this
  obtain ⟨L',S2,rfl⟩:=List.exists_cons_of_ne_nil hS1
  simp only [List.tail_cons] at h3
  subst h3
  exact ⟨x,hrun,x,Pr',φ1,rfl,stp_pop hsF,rel_pop hRF,hx.down r h2⟩
 rcases he with rfl | rfl
 ·exact key
 ·exact key
section
variable {P : Program} {fr : List AV} {S : ASt} {Q : Exit → List AV → ASt → Prop}
theorem awq_skip : awq P .skip fr S Q = Q .normal fr S:=by rw [awq]
theorem awq_region (id : Nat) (ops : Array Oper) : awq P (.region id ops false) fr S Q = awpY P ops ops.toList fr S (Q .normal):=by rw [awq,if_neg (by simp)]
theorem awq_of {c : Code} (hc : ∀ id ops,c = .region id ops true → True) {id : Nat} {ops : Array Oper} (h : awp P (.region id ops true) fr S Q) : awq P (.region id ops true) fr S Q:=by
 rw [awq,if_pos rfl]
 exact h
def SeqY (P : Program) (b : Code) (Q : Exit → List AV → ASt → Prop) (e : Exit) (fr : List AV) (S : ASt) : Prop:=match e with | .normal=>awq P b fr S Q | e=>Q e fr S
theorem seqY_normal (b : Code) : SeqY P b Q .normal fr S = awq P b fr S Q:=rfl
theorem seqY_exit (b : Code) (j : Nat) : SeqY P b Q (.exit j) fr S = Q (.exit j) fr S:=rfl
theorem seqY_ret (b : Code) : SeqY P b Q .ret fr S = Q .ret fr S:=rfl
theorem awq_seq (a b : Code) : awq P (.seq a b) fr S Q = awq P a fr S (SeqY P b Q):=by rw [awq] <;> congr 1
theorem awq_cond (c : Operand) (t e : Code) : awq P (.cond c t e) fr S Q = (match evA fr c with | .p (.v (.bool b))=>if b = true then awq P t fr S Q else awq P e fr S Q | .bl=>awq P t fr S Q ∧ awq P e fr S Q | _=>False):=by rw [awq] <;> rfl
theorem awq_block (id : Nat) (c : Code) : awq P (.block id c) fr S Q = awq P c fr S (BlkQ id Q):=by rw [awq] <;> congr 1
def NoG (Q : Exit → List AV → ASt → Prop) (e : Exit) (fr : List AV) (S : ASt) : Prop:=match e with | .goto _=>False | e=>Q e fr S
theorem noG_normal : NoG Q .normal fr S = Q .normal fr S:=rfl
theorem noG_exit (j : Nat) : NoG Q (.exit j) fr S = Q (.exit j) fr S:=rfl
theorem noG_ret : NoG Q .ret fr S = Q .ret fr S:=rfl
theorem awq_scope (c : Code) : awq P (.scope c) fr S Q = awq P c fr S (NoG Q):=by rw [awq] <;> congr 1
theorem awq_exit (id : Nat) : awq P (.exit id) fr S Q = Q (.exit id) fr S:=by rw [awq]
theorem awq_label (l : Nat) : awq P (.label l) fr S Q = Q .normal fr S:=by rw [awq]
theorem awq_ret : awq P .ret fr S Q = Q .ret fr S:=by rw [awq]
theorem awpY_nil {ops : Array Oper} {K : List AV → ASt → Prop} : awpY P ops [] fr S K = K fr S:=by rw [awpY]
@[reducible] def YieldQ (P : Program) (l : Nat) (args : List AV) (S : ASt) (K : AV → ASt → Prop) : Prop:=∃ r S',YDet P l args S r S' ∧ K r S'
def NextY (P : Program) (ops : Array Oper) (os : List Oper) (fr : List AV) (dst : Option Nat) (K : List AV → ASt → Prop) (r : AV) (S : ASt) : Prop:=awpY P ops os (putA fr dst r) S K
theorem nextY_eq {ops : Array Oper} (os : List Oper) (dst : Option Nat) {K : List AV → ASt → Prop} (r : AV) : NextY P ops os fr dst K r S = awpY P ops os (putA fr dst r) S K:=rfl
theorem awpY_cons {ops : Array Oper} {K : List AV → ASt → Prop} (o : Oper) (os : List Oper) : awpY P ops (o :: os) fr S K = (match wantA ops o fr with
  | some true =>
   match yieldA o fr with
   | some (l,args)=>YieldQ P l args S (NextY P ops os fr o.dst K)
   | none =>
    match callA o fr with
    | some (F,args)=>CallQ P F args S (NextY P ops os fr o.dst K)
    | none =>
     match stepF P o fr S with
     | some (v,S')=>awpY P ops os (putA fr o.dst v) S' K
     | none=>False
  | some false=>awpY P ops os (putA fr o.dst .un) S K
  | none=>False):=by rw [awpY] <;> rfl
theorem awq_loop {body : Code} {α : Type} (I : α → Prop) (F : α → List AV) (G : α → ASt) (μ : α → Nat) (a0 : α) (h0 : I a0) (hF : wkR fr (F a0)) (hG : wkT S (G a0)) (h : ∀ a,I a → awq P body (F a) (G a) (LoopQ I F G μ (μ a) (top (G a0)) Q)) : awq P (.loop body) fr S Q:=⟨α,I,F,G,μ,a0,fun _=>top (G a0),h0,.wk hF hG,fun _ _=>Nat.le_refl _,h⟩
end
attribute [simp] awq_skip awq_region seqY_normal seqY_exit seqY_ret awq_seq awq_cond awq_block awq_scope noG_normal noG_exit noG_ret awq_exit awq_label awq_ret awpY_nil nextY_eq awpY_cons yieldA
end Go.Proofs.YtfiohepfohhibaaDoor
