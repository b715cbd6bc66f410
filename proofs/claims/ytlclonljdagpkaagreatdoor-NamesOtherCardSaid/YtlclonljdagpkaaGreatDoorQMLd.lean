/- A part of the proof. The statement is proved in the claim's last text. -/
import Derived.Test.YtlclonljdagpkaaGreatDoorQMLt
import Derived.Defers
set_option linter.unusedVariables false
set_option linter.unusedSimpArgs false
set_option maxRecDepth 100000
set_option maxHeartbeats 32000000
namespace Go.Proofs.YtlclonljdagpkaaGreatDoor
open Go.RowKit
def zPk (P : Program) (K : FuncId) (args : List AV) (S S' : ASt) : Prop :=
 (∀ xs w,(callFunc K xs).run P w = .ok (.enter K xs) w) /\ ∀ Pr φ (xs : Array Value) w u,u ≠ .run -> RL Pr φ args xs -> Rel Pr φ S w -> φ ≠ [] ->
  CallsD P K xs u w fun e u' w'=>u' = u /\ ∃ x Pr' φ',e = .returned x /\ Stp Pr φ w Pr' φ' w' /\ Rel Pr' φ' S' w'
def RetD (S' : ASt) : Exit -> List AV -> ASt -> Prop:=fun e fr S1=>(e = .normal \/ e = .ret) /\ S1.tail = S'
theorem zPl (S' : ASt) (e : Exit) (fr : List AV) (L : List AObj) (R : ASt) : RetD S' e fr (L :: R) = ((e = .normal \/ e = .ret) /\ R = S'):=rfl
theorem zFi {P : Program} {fn : Func} (h : fn.results = #[]) (tmps : Array Value) (w : World) : (results fn tmps).run P w = .ok (.tuple #[]) w:=by
 rw [zHq,h];simp
section
variable {P : Program}
theorem zGk {Pr : Prot} {φ : Fi2} {args : List AV} {xs : Array Value} {n : Nat} (hargs : RL Pr φ args xs) : RF Pr ([] :: φ) (AV.ups 1 args ++ List.replicate (n - args.length) .un) { tmps:=xs ++ Array.replicate (n - xs.size) undef,defers:=[] }:=by
 refine ⟨by simp [zAY,hargs.1],fun t v x hv hx=>?_⟩
 rcases Nat.lt_or_ge t args.length with ht | ht
 .rw [List.getElem?_append_left (by rw [zAY]; exact ht),zBV] at hv
  obtain ⟨v0,h0,rfl⟩:=Option.map_eq_some_iff.1 hv
  simp only at hx;rw [Array.getElem?_append_left (by rw [<- hargs.1]; exact ht)] at hx
  exact RA.up (k:=1) (hargs.2 t v0 x h0 hx)
 .rw [List.getElem?_append_right (by rw [zAY]; exact ht)] at hv
  simp only at hx;rw [Array.getElem?_append_right (by rw [<- hargs.1]; exact ht)] at hx
  rw [List.getElem?_replicate] at hv;rw [Array.getElem?_replicate] at hx;split at hv
  .split at hx
   .cases hv; cases hx; exact .un
   .cases hx
  .cases hv
theorem zPk.intro {K : FuncId} {args : List AV} {S S' : ASt} {fn : Func} {c : Code} (hm : P.follows .mixedOrders = true) (hK : ∀ xs w,(callFunc K xs).run P w = .ok (.enter K xs) w) (hf : P.funcs[K]? = some fn) (hb : fn.body = some c) (hres : fn.results = #[])
  (h : awp P c (AV.ups 1 args ++ List.replicate (fn.ntmps - args.length) .un) ([] :: S) (RetD S')) : zPk P K args S S':=by
 refine ⟨hK,fun Pr φ xs w u hu hargs hR hne=>?_⟩
 refine callsD_of_wp hf hb ?_;refine wp_mono (zCD hm c _ Pr ([] :: φ) _ _ ([] :: S) w (zGk hargs) (zCz hR) (by simp) h) fun e a' w' hp=>?_
 obtain ⟨fr',S1,Pr',φ',⟨he,h3⟩,h4,h5,h6,h7⟩:=hp
 have hne' : φ' ≠ []:=zZ h6 (by simp)
 obtain ⟨l',φ1,rfl⟩:=List.exists_cons_of_ne_nil hne'
 have hS1 : S1 ≠ []:=fun h0=>by have:=h5.shape; rw [h0] at this; simp at this
 obtain ⟨L',S2,rfl⟩:=List.exists_cons_of_ne_nil hS1
 simp only [List.tail_cons] at h3;subst h3
 have key : a'.defers = [] /\ ∃ v,(results fn a'.tmps).run P w' = .ok v w' /\ ∃ x Pr' φ',Ending.returned v = .returned x /\ Stp Pr φ w Pr' φ' w' /\ Rel Pr' φ' S2 w' :=
  ⟨h7,_,zFi hres _ _,_,Pr',φ1,rfl,zEX h6,zCC h5⟩
 rcases he with rfl | rfl
 .exact key
 .exact key
def DR (Pr : Prot) (φ : Fi2) : List AV -> List Deferred -> Prop
 | [],[]=>True
 | v :: vs,d :: ds=>(∃ f la lb cap,v = .fn f la lb /\ d.target = .fn f cap /\ RA Pr φ (.fn f la lb) (.func f d.args cap)) /\ DR Pr φ vs ds
 | _,_=>False
theorem DR.mono {Pr Pr' : Prot} {φ φ' : Fi2} (hl : Pr.le Pr') (hf : Fle φ φ') : ∀ {vs : List AV} {ds : List Deferred},DR Pr φ vs ds -> DR Pr' φ' vs ds
 | [],[],_=>trivial
 | v :: vs,d :: ds,⟨⟨f,la,lb,cap,h1,h2,h3⟩,h⟩=>⟨⟨f,la,lb,cap,h1,h2,h3.mono hl hf⟩,DR.mono hl hf h⟩
 | [],_ :: _,h=>h.elim
 | _ :: _,[],h=>h.elim
theorem DR.cut {Pr : Prot} {l : List Ent} {φ : Fi2} {n : Nat} : ∀ {vs : List AV} {ds : List Deferred},DR Pr (l :: φ) vs ds -> DR Pr (l.take n :: φ) (AV.cuts n vs) ds
 | [],[],_=>trivial
 | v :: vs,d :: ds,⟨⟨f,la,lb,cap,h1,h2,h3⟩,h⟩=>⟨⟨f,AV.cuts n la,AV.cuts n lb,cap,by rw [h1]; rfl,h2,by have:=h3.cut (n:=n); simpa [AV.cut] using this⟩,DR.cut h⟩
 | [],_ :: _,h=>h.elim
 | _ :: _,[],h=>h.elim
def DRun (P : Program) : List AV -> ASt -> ASt -> Prop
 | [],S,S'=>S = S'
 | .fn (.func K) la lb :: vs,S,S'=>∃ S1,zPk P K (la ++ lb) S S1 /\ DRun P vs S1 S'
 | _ :: _,_,_=>False
theorem zGl {fn : Func} (hres : fn.results = #[]) {tmps : Array Value} {R : Ending -> World -> Prop} {Pr0 : Prot} {φ0 : Fi2} {w0 : World} {S' : ASt} (hR0 : ∀ Pr φ w,Stp Pr0 φ0 w0 Pr φ w -> Rel Pr φ S' w -> R (.returned (.tuple #[])) w) :
  ∀ (vs : List AV) (ds : List Deferred) (Pr : Prot) (φ : Fi2) (S : ASt) (w : World),DR Pr φ vs ds -> Rel Pr φ S w -> φ ≠ [] -> Stp Pr0 φ0 w0 Pr φ w -> DRun P vs S S' -> Leaves P fn tmps R ds .returning w
 | [],[],Pr,φ,S,w,hd,hR,hne,hs,hk=>⟨_,zFi hres _ _,hR0 Pr φ w hs (by cases hk; exact hR)⟩
 | [],_ :: _,Pr,φ,S,w,hd,hR,hne,hs,hk=>hd.elim
 | _ :: _,[],Pr,φ,S,w,hd,hR,hne,hs,hk=>hd.elim
 | v :: vs,d :: ds,Pr,φ,S,w,⟨⟨f,la,lb,cap,h1,h2,h3⟩,hd⟩,hR,hne,hs,hk=>by
  subst h1
  cases f with
  | func K =>
   obtain ⟨S1,⟨hK,hc⟩,hk⟩:=hk
   obtain ⟨t,xs⟩:=d
   simp only at h2 h3;subst h2
   cases h3 with
   | fn l1 l2 c1 c2 =>
    have hargs : RL Pr φ (la ++ lb) (xs ++ cap):=RL.append ⟨l1,c1⟩ ⟨l2,c2⟩
    refine leaves_cons (by simp) (f:=K) (args:=xs ++ cap) (by simp [invoke,hK]) ?_
    refine (hc Pr φ _ w .returning (by simp) hargs hR hne).mono fun e u' w' hp=>?_
    obtain ⟨rfl,x,Pr',φ',rfl,s1,r1⟩:=hp
    exact zGl hres hR0 vs ds Pr' φ' S1 w' (hd.mono s1.pl s1.fl) r1 (zZ s1 hne) (hs.trans s1) hk
  | _=>exact hk.elim
def zEt (Pr : Prot) (φ : Fi2) (w : World) (Q : Exit -> List AV -> ASt -> List AV -> Prop) : Exit -> Act -> World -> Prop:=fun e a' w' =>
 ∃ fr' S' ds' Pr' φ',Q e fr' S' ds' /\ RF Pr' φ' fr' a' /\ Rel Pr' φ' S' w' /\ Stp Pr φ w Pr' φ' w' /\ DR Pr' φ' ds' a'.defers
def zJp (o : Oper) (fr : List AV) : Option AV :=
 match o.op with
 | .defer c =>
  match c.callee with
  | .value f =>
   match evA fr f with
   | .fn g fsts caps=>some (.fn g (fsts ++ c.args.toList.map (evA fr)) caps)
   | _=>none
  | _=>none
 | _=>none
def zAf (P : Program) (ops : Array Oper) : List Oper -> List AV -> ASt -> List AV -> (List AV -> ASt -> List AV -> Prop) -> Prop
 | [],fr,S,ds,K=>K fr S ds
 | o :: os,fr,S,ds,K =>
  match zBO ops o fr with
  | some true =>
   match zJp o fr with
   | some v=>zAf P ops os (putA fr o.dst .un) S (v :: ds) K
   | none =>
    match zCe o fr with
    | some (F,args)=>∃ r S',ADet P F args S r S' /\ zAf P ops os (putA fr o.dst r) S' ds K
    | none =>
     match zDa P o fr S with
     | some (v,S')=>zAf P ops os (putA fr o.dst v) S' ds K
     | none=>False
  | some false=>zAf P ops os (putA fr o.dst .un) S ds K
  | none=>False
theorem zC7 {ops : Array Oper} {K : List AV -> ASt -> List AV -> Prop} {Q : Exit -> List AV -> ASt -> List AV -> Prop} (hQ : ∀ fr S ds,K fr S ds -> Q .normal fr S ds) {Pr0 : Prot} {φ0 : Fi2} {w0 : World} : ∀ (os : List Oper) (i : Nat),ops.toList.drop i = os -> ∀ (Pr : Prot) (φ : Fi2) (fr : List AV) (a : Act) (S : ASt) (ds : List AV) (w : World),RF Pr φ fr a -> Rel Pr φ S w -> φ ≠ [] -> Stp Pr0 φ0 w0 Pr φ w -> DR Pr φ ds a.defers -> zAf P ops os fr S ds K ->
  wpOps P ops (zEt Pr0 φ0 w0 Q) (List.range' i os.length) a w
 | [],i,hi,Pr,φ,fr,a,S,ds,w,h,hR,hne,hs0,hd0,hk=>⟨fr,S,ds,Pr,φ,hQ _ _ _ hk,h,hR,hs0,hd0⟩
 | o :: os,i,hi,Pr,φ,fr,a,S,ds,w,h,hR,hne,hs0,hd0,hk=>by
  have ho : ops[i]? = some o:=by
   have : (ops.toList.drop i)[0]? = some o:=by rw [hi]; rfl
   rw [List.getElem?_drop] at this
   simpa using this
  have hi' : ops.toList.drop (i + 1) = os:=by rw [<- List.drop_drop,hi]; rfl
  simp only [List.length_cons,List.range'_succ];rw [wpOps_cons];unfold wpOp;rw [ho];simp only [zAf] at hk
  have step : ∀ {v : AV} {S' : ASt},Stepped P o fr S v S' -> zAf P ops os (putA fr o.dst v) S' ds K -> Region.wanted o (yielded ops a.tmps) = true -> o.wp P a w (wpOps P ops (zEt Pr0 φ0 w0 Q) (List.range' (i + 1) os.length)) (zEt Pr0 φ0 w0 Q):=fun hs hrest hw =>
   zBG h hR hne hs fun x w' Pr' φ' s1 s2 s3=>zC7 hQ os (i + 1) hi' Pr' φ' _ _ _ ds w' ((h.mono s1.pl s1.fl).put o.dst s3) s2 (zZ s1 hne) (hs0.trans s1) (by rw [zAs]; exact hd0.mono s1.pl s1.fl) hrest
  split at hk
  .rename_i hw
   simp only [zBS h hw,if_true];refine .inl ?_;split at hk
   .rename_i v hv
    unfold zJp at hv;split at hv
    .rename_i c hop
     split at hv
     .rename_i f hcal
      split at hv
      .rename_i g fsts caps he
       cases hv
       have hfv:=h.ev f
       rw [he] at hfv
       generalize hy : a.eval f = y at hfv
       cases hfv with
       | @fn _ _ _ xs ys l1 l2 c1 c2 =>
        have hrun : (execOp a.eval o).run P w = .ok (.defer { target:=.fn g ys,args:=xs ++ c.args.map a.eval }) w:=by
         simp [execOp,hop,resolve,hcal,hy,Deferred.ofValue]
        simp only [Oper.wp,hrun,Oper.upon_defer]
        have hA : RL Pr φ (fsts ++ c.args.toList.map (evA fr)) (xs ++ c.args.map a.eval):=RL.append ⟨l1,c1⟩ ⟨by simp,fun j q x hq hx=>by
         rw [List.getElem?_map] at hq
         obtain ⟨q0,h0,rfl⟩:=Option.map_eq_some_iff.1 hq
         have h0' : c.args[j]? = some q0:=by simpa using h0
         rw [Array.getElem?_map,h0'] at hx;cases hx;exact h.ev _⟩
        have hput : RF Pr φ (putA fr o.dst .un) ({ a with defers:={ target:=.fn g ys,args:=xs ++ c.args.map a.eval } :: a.defers }.put o.dst undef):=by
         have h1 : RF Pr φ fr { a with defers:={ target:=.fn g ys,args:=xs ++ c.args.map a.eval } :: a.defers }:=⟨h.len,h.at_⟩
         exact h1.put o.dst .un
        refine zC7 hQ os (i + 1) hi' Pr φ _ _ S _ w hput hR hne hs0 ?_ hk;rw [zAs];exact ⟨⟨g,_,caps,ys,rfl,rfl,.fn hA.1 l2 hA.2 c2⟩,hd0⟩
      .cases hv
     .cases hv
    .cases hv
   .split at hk
    .rename_i F args hc
     obtain ⟨r,S',h1,h2⟩:=hk
     exact step (zEs hc h1) h2 (zBS h hw)
    .split at hk
     .rename_i v S' hs
      exact step (zIf hs) hk (zBS h hw)
     .exact hk.elim
  .rename_i hw
   simp only [zBS h hw,Bool.false_eq_true,if_false];exact zC7 hQ os (i + 1) hi' Pr φ _ _ S ds w (h.put o.dst (Pr:=Pr) (φ:=φ) (v:=.un) (x:=undef) .un) hR hne hs0 (by rw [zAs]; exact hd0) hk
  .exact hk.elim
def zIj (o : Oper) : Bool:=match o.op with | .defer _=>true | _=>false
def zJq {α : Type} (I : α -> Prop) (F : α -> List AV) (G : α -> ASt) (D : α -> List AV) (μ : α -> Nat) (m : Nat) (n : α -> Nat) (Q : Exit -> List AV -> ASt -> List AV -> Prop) : Exit -> List AV -> ASt -> List AV -> Prop:=fun e fr' S' ds' =>
 match e with
 | .normal=>∃ a',I a' /\ μ a' < m /\ wkR (AV.cuts (n a') fr') (F a') /\ wkT (trim (n a') S') (G a') /\ AV.cuts (n a') ds' = D a'
 | e=>Q e fr' S' ds'
def zVT (body : List AV -> ASt -> List AV -> (Exit -> List AV -> ASt -> List AV -> Prop) -> Prop) (fr : List AV) (S : ASt) (ds : List AV) (Q : Exit -> List AV -> ASt -> List AV -> Prop) : Prop :=
 ∃ (α : Type) (I : α -> Prop) (F : α -> List AV) (G : α -> ASt) (D : α -> List AV) (μ : α -> Nat) (a0 : α) (n : α -> Nat),I a0 /\ wkR fr (F a0) /\ wkT S (G a0) /\ ds = D a0 /\ (∀ a,I a -> top (G a0) <= n a) /\ ∀ a,I a -> body (F a) (G a) (D a) (zJq I F G D μ (μ a) n Q)
def zBH (P : Program) : Code -> List AV -> ASt -> List AV -> (Exit -> List AV -> ASt -> List AV -> Prop) -> Prop
 | .region id ops draw,fr,S,ds,Q=>if (ops.toList.any zIj && !draw) = true then zAf P ops ops.toList fr S ds (Q .normal) else awp P (.region id ops draw) fr S fun e fr S=>Q e fr S ds
 | .seq a b,fr,S,ds,Q=>zBH P a fr S ds fun e fr S ds =>
  match e with
  | .normal=>zBH P b fr S ds Q
  | e=>Q e fr S ds
 | .cond c t e,fr,S,ds,Q =>
  match evA fr c with
  | .p (.v (.bool b))=>if b = true then zBH P t fr S ds Q else zBH P e fr S ds Q
  | _=>False
 | .block id body,fr,S,ds,Q=>zBH P body fr S ds fun e fr S ds =>
  match e with
  | .exit j=>if j = id then Q .normal fr S ds else Q (.exit j) fr S ds
  | e=>Q e fr S ds
 | .loop body,fr,S,ds,Q=>zVT (zBH P body) fr S ds Q
 | .exit id,fr,S,ds,Q=>Q (.exit id) fr S ds
 | .label _,fr,S,ds,Q=>Q .normal fr S ds
 | .ret,fr,S,ds,Q=>Q .ret fr S ds
 | .skip,fr,S,ds,Q=>Q .normal fr S ds
 | _,_,_,_,_=>False
theorem zEt.trans {Pr Pr1 : Prot} {φ φ1 : Fi2} {w w1 : World} {Q : Exit -> List AV -> ASt -> List AV -> Prop} (h : Stp Pr φ w Pr1 φ1 w1) (e : Exit) (a' : Act) (w' : World) (hp : zEt Pr1 φ1 w1 Q e a' w') : zEt Pr φ w Q e a' w':=by
 obtain ⟨fr',S',ds',Pr',φ',h1,h2,h3,h4,h5⟩:=hp
 exact ⟨fr',S',ds',Pr',φ',h1,h2,h3,h.trans h4,h5⟩
theorem zSg {c : Code} (hm : P.follows .mixedOrders = true) {Q : Exit -> List AV -> ASt -> List AV -> Prop} {Pr : Prot} {φ : Fi2} {fr : List AV} {a : Act} {S : ASt} {ds : List AV} {w : World} (h : RF Pr φ fr a) (hR : Rel Pr φ S w) (hne : φ ≠ []) (hd : DR Pr φ ds a.defers) (hk : awp P c fr S fun e fr S=>Q e fr S ds) : c.wp P (zEt Pr φ w Q) a w :=
 wp_mono (zCD hm c _ Pr φ fr a S w h hR hne hk) fun e a' w' hp=>by
  obtain ⟨fr',S',Pr',φ',h1,h2,h3,h4,h5⟩:=hp
  exact ⟨fr',S',ds,Pr',φ',h1,h2,h3,h4,by rw [h5]; exact hd.mono h4.pl h4.fl⟩
theorem zC8 (hm : P.follows .mixedOrders = true) : ∀ (c : Code) (Q : Exit -> List AV -> ASt -> List AV -> Prop) (Pr : Prot) (φ : Fi2) (fr : List AV) (a : Act) (S : ASt) (ds : List AV) (w : World),RF Pr φ fr a -> Rel Pr φ S w -> φ ≠ [] -> DR Pr φ ds a.defers -> zBH P c fr S ds Q -> c.wp P (zEt Pr φ w Q) a w
 | .skip,Q,Pr,φ,fr,a,S,ds,w,h,hR,hne,hd,hk=>wp_skip ⟨fr,S,ds,Pr,φ,hk,h,hR,Stp.refl _ _ _,hd⟩
 | .label l,Q,Pr,φ,fr,a,S,ds,w,h,hR,hne,hd,hk=>wp_label ⟨fr,S,ds,Pr,φ,hk,h,hR,Stp.refl _ _ _,hd⟩
 | .exit id,Q,Pr,φ,fr,a,S,ds,w,h,hR,hne,hd,hk=>wp_exit ⟨fr,S,ds,Pr,φ,hk,h,hR,Stp.refl _ _ _,hd⟩
 | .ret,Q,Pr,φ,fr,a,S,ds,w,h,hR,hne,hd,hk=>wp_ret ⟨fr,S,ds,Pr,φ,hk,h,hR,Stp.refl _ _ _,hd⟩
 | .region id ops draw,Q,Pr,φ,fr,a,S,ds,w,h,hR,hne,hd,hk=>by
  simp only [zBH] at hk;split at hk
  .rename_i hc
   simp only [Bool.and_eq_true,Bool.not_eq_true'] at hc;rw [hc.2];refine wp_region ?_
   have:=zC7 (Q:=Q) (fun _ _ _ h=>h) ops.toList 0 rfl Pr φ fr a S ds w h hR hne (Stp.refl _ _ _) hd hk
   rwa [List.range_eq_range',<- Array.length_toList]
  .exact zSg hm h hR hne hd hk
 | .seq x y,Q,Pr,φ,fr,a,S,ds,w,h,hR,hne,hd,hk=>by
  refine wp_seq (wp_mono (zC8 hm x _ Pr φ fr a S ds w h hR hne hd hk) fun e a' w' hp=>?_)
  obtain ⟨fr',S',ds',Pr',φ',h1,h2,h3,h4,h5⟩:=hp
  cases e with
  | normal=>exact wp_mono (zC8 hm y Q Pr' φ' fr' a' S' ds' w' h2 h3 (zZ h4 hne) h5 h1) fun e a'' w'' hp=>zEt.trans h4 e a'' w'' hp
  | _=>exact ⟨fr',S',ds',Pr',φ',h1,h2,h3,h4,h5⟩
 | .cond c t e,Q,Pr,φ,fr,a,S,ds,w,h,hR,hne,hd,hk=>by
  simp only [zBH] at hk;split at hk
  .rename_i b hb
   have hc:=zP (h.ev c) (by rw [hb]; rfl)
   refine wp_cond hc ?_
   cases b with
   | true=>exact zC8 hm t Q Pr φ fr a S ds w h hR hne hd hk
   | false=>exact zC8 hm e Q Pr φ fr a S ds w h hR hne hd hk
  .exact hk.elim
 | .block id body,Q,Pr,φ,fr,a,S,ds,w,h,hR,hne,hd,hk=>by
  refine wp_block (wp_mono (zC8 hm body _ Pr φ fr a S ds w h hR hne hd hk) fun e a' w' hp=>?_)
  obtain ⟨fr',S',ds',Pr',φ',h1,h2,h3,h4,h5⟩:=hp
  cases e with
  | exit j =>
   simp only [Exit.inBlock];simp only at h1;split
   .rename_i hj
    rw [if_pos hj] at h1;exact ⟨fr',S',ds',Pr',φ',h1,h2,h3,h4,h5⟩
   .rename_i hj
    rw [if_neg hj] at h1
    exact ⟨fr',S',ds',Pr',φ',h1,h2,h3,h4,h5⟩
  | _=>exact ⟨fr',S',ds',Pr',φ',h1,h2,h3,h4,h5⟩
 | .loop body,Q,Pr,φ,fr,a,S,ds,w,h,hR,hne,hd,hk=>by
  obtain ⟨α,I,F,G,D,μ,a0,n,hI,hF0,hG0,hD0,hn,hb⟩:=hk
  have hfs : RF Pr φ (F a0) a:=h.wk (zFe hF0)
  have hRs : Rel Pr φ (G a0) w:=zEO hR (zFf hG0)
  have hn2 : top φ = top (G a0):=zBW hRs.shape
  refine wp_loop_ghost (fun k a1 w1=>∃ m Pr1 φ1,I m /\ μ m = k /\ RF Pr1 φ1 (F m) a1 /\ Rel Pr1 φ1 (G m) w1 /\ Stp Pr φ w Pr1 φ1 w1 /\ DR Pr1 φ1 (D m) a1.defers) (μ a0) ⟨a0,Pr,φ,hI,rfl,hfs,hRs,Stp.refl _ _ _,by rw [<- hD0]; exact hd⟩ ?_
  rintro k a1 w1 ⟨m,Pr1,φ1,hIm,rfl,hf,hr,hs,hd1⟩
  refine wp_mono (zC8 hm body _ Pr1 φ1 (F m) a1 (G m) (D m) w1 hf hr (zZ hs hne) hd1 (hb m hIm)) fun e a2 w2 hp=>?_
  obtain ⟨fr',S',ds',Pr2,φ2,h1,h2,h3,h4,h5⟩:=hp
  cases e with
  | normal =>
   obtain ⟨m',hI',hlt,hwf,hws,hds⟩:=h1
   have hs2:=hs.trans h4
   have hne2 : φ2 ≠ []:=zZ hs2 hne
   obtain ⟨l2,φr,rfl⟩:=List.exists_cons_of_ne_nil hne2
   obtain ⟨l0,φ0,rfl⟩:=List.exists_cons_of_ne_nil hne
   have hS' : S' ≠ []:=fun h0=>by have:=h3.shape; rw [h0] at this; simp at this
   obtain ⟨L',SR,rfl⟩:=List.exists_cons_of_ne_nil hS'
   have hl0 : l0.length <= n m':=Nat.le_trans (Nat.le_of_eq hn2) (hn m' hI')
   have hf2 : RF Pr2 (l2.take (n m') :: φr) (AV.cuts (n m') fr') a2:=⟨by rw [zBs]; exact h2.len,fun t c x hc hx=>by
    rw [zBR] at hc
    obtain ⟨c0,h0,rfl⟩:=Option.map_eq_some_iff.1 hc
    exact (h2.at_ t c0 x h0 hx).cut⟩
   exact ⟨μ m',hlt,m',Pr2,l2.take (n m') :: φr,hI',rfl,hf2.wk (zFe hwf),zEO (zEq h3 (n m')) (zFf hws),zFz hs2 hl0,by rw [<- hds]; exact h5.cut⟩
  | _=>exact ⟨fr',S',ds',Pr2,φ2,h1,h2,h3,hs.trans h4,h5⟩
 | .scope _,Q,Pr,φ,fr,a,S,ds,w,h,hR,hne,hd,hk=>hk.elim
 | .rangeFunc _ _ _ _,Q,Pr,φ,fr,a,S,ds,w,h,hR,hne,hd,hk=>hk.elim
 | .goto _,Q,Pr,φ,fr,a,S,ds,w,h,hR,hne,hd,hk=>hk.elim
 | .refuse _,Q,Pr,φ,fr,a,S,ds,w,h,hR,hne,hd,hk=>hk.elim
def zIk (P : Program) (S' : ASt) : Exit -> List AV -> ASt -> List AV -> Prop:=fun e fr S1 ds=>(e = .normal \/ e = .ret) /\ ∃ S2,DRun P ds S1 S2 /\ S2.tail = S'
theorem ADet.introD {K : FuncId} {args : List AV} {S S' : ASt} {fn : Func} {c : Code} (hm : P.follows .mixedOrders = true) (hK : ∀ xs w,(callFunc K xs).run P w = .ok (.enter K xs) w) (hf : P.funcs[K]? = some fn) (hb : fn.body = some c) (hres : fn.results = #[])
  (h : zBH P c (AV.ups 1 args ++ List.replicate (fn.ntmps - args.length) .un) ([] :: S) [] (zIk P S')) : ADet P K args S .un S':=by
 refine ⟨hK,fun Pr φ xs w hargs hR hne=>?_⟩
 refine calls_of_wp_defers hf hb ?_;refine wp_mono (zC8 hm c _ Pr ([] :: φ) _ _ ([] :: S) [] w (zGk hargs) (zCz hR) (by simp) trivial h) fun e a' w' hp=>?_
 obtain ⟨fr',S1,ds,Pr',φ',⟨he,S2,hrun,h3⟩,h4,h5,h6,h7⟩:=hp
 have key : Leaves P fn a'.tmps (fun e w'=>∃ x Pr' φ',e = .returned x /\ Stp Pr φ w Pr' φ' w' /\ Rel Pr' φ' S' w' /\ RA Pr' φ' .un x) a'.defers .returning w':=by
  refine zGl (P:=P) hres (Pr0:=Pr) (φ0:=[] :: φ) (w0:=w) (S':=S2) (fun Pr2 φ2 w2 s2 r2=>?_) ds a'.defers Pr' φ' S1 w' h7 h5 (zZ h6 (by simp)) h6 hrun
  have hne' : φ2 ≠ []:=zZ s2 (by simp)
  obtain ⟨l',φ1,rfl⟩:=List.exists_cons_of_ne_nil hne'
  have hS1 : S2 ≠ []:=fun h0=>by have:=r2.shape; rw [h0] at this; simp at this
  obtain ⟨L',S3,rfl⟩:=List.exists_cons_of_ne_nil hS1
  simp only [List.tail_cons] at h3;subst h3;exact ⟨_,Pr2,φ1,rfl,zEX s2,zCC r2,.un⟩
 rcases he with rfl | rfl
 .exact key
 .exact key
end
section
variable {P : Program} {fr : List AV} {S : ASt} {ds : List AV} {Q : Exit -> List AV -> ASt -> List AV -> Prop}
def zSh (P : Program) (b : Code) (Q : Exit -> List AV -> ASt -> List AV -> Prop) (e : Exit) (fr : List AV) (S : ASt) (ds : List AV) : Prop:=match e with | .normal=>zBH P b fr S ds Q | e=>Q e fr S ds
def zSi (id : Nat) (Q : Exit -> List AV -> ASt -> List AV -> Prop) (e : Exit) (fr : List AV) (S : ASt) (ds : List AV) : Prop:=match e with | .exit j=>if j = id then Q .normal fr S ds else Q (.exit j) fr S ds | e=>Q e fr S ds
def zT7 (ds : List AV) (Q : Exit -> List AV -> ASt -> List AV -> Prop) (e : Exit) (fr : List AV) (S : ASt) : Prop:=Q e fr S ds
theorem zJr (e : Exit) : zT7 ds Q e fr S = Q e fr S ds:=rfl
theorem zFj (b : Code) : zSh P b Q .normal fr S ds = zBH P b fr S ds Q:=rfl
theorem zHw (b : Code) (j : Nat) : zSh P b Q (.exit j) fr S ds = Q (.exit j) fr S ds:=rfl
theorem zJs (b : Code) : zSh P b Q .ret fr S ds = Q .ret fr S ds:=rfl
theorem zFk (i : Nat) : zSi i Q .normal fr S ds = Q .normal fr S ds:=rfl
theorem zHx (i j : Nat) : zSi i Q (.exit j) fr S ds = if j = i then Q .normal fr S ds else Q (.exit j) fr S ds:=rfl
theorem zJt (i : Nat) : zSi i Q .ret fr S ds = Q .ret fr S ds:=rfl
theorem zHy : zBH P .skip fr S ds Q = Q .normal fr S ds:=by rw [zBH]
theorem zFl (id : Nat) (ops : Array Oper) (draw : Bool) : zBH P (.region id ops draw) fr S ds Q = if (ops.toList.any zIj && !draw) = true then zAf P ops ops.toList fr S ds (Q .normal) else awp P (.region id ops draw) fr S (zT7 ds Q):=by rw [zBH] <;> rfl
theorem zJu (a b : Code) : zBH P (.seq a b) fr S ds Q = zBH P a fr S ds (zSh P b Q):=by rw [zBH] <;> congr 1
theorem zHz (c : Operand) (t e : Code) : zBH P (.cond c t e) fr S ds Q = (match evA fr c with | .p (.v (.bool b))=>if b = true then zBH P t fr S ds Q else zBH P e fr S ds Q | _=>False):=by rw [zBH] <;> rfl
theorem zGm (id : Nat) (c : Code) : zBH P (.block id c) fr S ds Q = zBH P c fr S ds (zSi id Q):=by rw [zBH] <;> congr 1
theorem zH0 (id : Nat) : zBH P (.exit id) fr S ds Q = Q (.exit id) fr S ds:=by rw [zBH]
theorem zGn (l : Nat) : zBH P (.label l) fr S ds Q = Q .normal fr S ds:=by rw [zBH]
theorem zJv : zBH P .ret fr S ds Q = Q .ret fr S ds:=by rw [zBH]
theorem zFm {ops : Array Oper} {K : List AV -> ASt -> List AV -> Prop} : zAf P ops [] fr S ds K = K fr S ds:=by rw [zAf]
@[reducible] def CallDf (P : Program) (F : Nat) (args : List AV) (S : ASt) (K : AV -> ASt -> Prop) : Prop:=∃ r S',ADet P F args S r S' /\ K r S'
def zT8 (P : Program) (ops : Array Oper) (os : List Oper) (fr : List AV) (dst : Option Nat) (ds : List AV) (K : List AV -> ASt -> List AV -> Prop) (r : AV) (S : ASt) : Prop:=zAf P ops os (putA fr dst r) S ds K
theorem zJw {ops : Array Oper} (os : List Oper) (dst : Option Nat) {K : List AV -> ASt -> List AV -> Prop} (r : AV) : zT8 P ops os fr dst ds K r S = zAf P ops os (putA fr dst r) S ds K:=rfl
theorem zEu {ops : Array Oper} {K : List AV -> ASt -> List AV -> Prop} (o : Oper) (os : List Oper) : zAf P ops (o :: os) fr S ds K = (match zBO ops o fr with
  | some true =>
   match zJp o fr with
   | some v=>zAf P ops os (putA fr o.dst .un) S (v :: ds) K
   | none =>
    match zCe o fr with
    | some (F,args)=>CallDf P F args S (zT8 P ops os fr o.dst ds K)
    | none =>
     match zDa P o fr S with
     | some (v,S')=>zAf P ops os (putA fr o.dst v) S' ds K
     | none=>False
  | some false=>zAf P ops os (putA fr o.dst .un) S ds K
  | none=>False):=by rw [zAf] <;> rfl
theorem zEv {α : Type} {I : α -> Prop} {F : α -> List AV} {G : α -> ASt} {D : α -> List AV} {μ : α -> Nat} {m : Nat} {n : α -> Nat} {fr' : List AV} {S' : ASt} {ds' : List AV} : zJq I F G D μ m n Q .normal fr' S' ds' = ∃ a',I a' /\ μ a' < m /\ wkR (AV.cuts (n a') fr') (F a') /\ wkT (trim (n a') S') (G a') /\ AV.cuts (n a') ds' = D a':=rfl
theorem zGo {α : Type} {I : α -> Prop} {F : α -> List AV} {G : α -> ASt} {D : α -> List AV} {μ : α -> Nat} {m : Nat} {n : α -> Nat} {fr' : List AV} {S' : ASt} {ds' : List AV} (j : Nat) : zJq I F G D μ m n Q (.exit j) fr' S' ds' = Q (.exit j) fr' S' ds':=rfl
theorem zH1 {α : Type} {I : α -> Prop} {F : α -> List AV} {G : α -> ASt} {D : α -> List AV} {μ : α -> Nat} {m : Nat} {n : α -> Nat} {fr' : List AV} {S' : ASt} {ds' : List AV} : zJq I F G D μ m n Q .ret fr' S' ds' = Q .ret fr' S' ds':=rfl
theorem zGp {S' : ASt} (e : Exit) : zIk P S' e fr S ds = ((e = .normal \/ e = .ret) /\ ∃ S2,DRun P ds S S2 /\ S2.tail = S'):=by rw [zIk]
end
theorem zD4 {P : Program} {fr : List AV} {S : ASt} {ds : List AV} {Q : Exit -> List AV -> ASt -> List AV -> Prop} {body : Code} {α : Type} (I : α -> Prop) (F : α -> List AV) (G : α -> ASt) (D : α -> List AV) (μ : α -> Nat) (n : α -> Nat) (a0 : α) (h0 : I a0) (hn : ∀ a,I a -> top (G a0) <= n a) (hF : wkR fr (F a0)) (hG : wkT S (G a0)) (hD : ds = D a0) (h : ∀ a,I a -> zBH P body (F a) (G a) (D a) (zJq I F G D μ (μ a) n Q)) : zBH P (.loop body) fr S ds Q:=⟨α,I,F,G,D,μ,a0,n,h0,hF,hG,hD,hn,h⟩
end Go.Proofs.YtlclonljdagpkaaGreatDoor
namespace Go.Proofs.YtlclonljdagpkaaGreatDoor
open Go.RowKit
mutual
def AV.fz (i : Nat) (cs : List AV) : AV -> AV
 | .ptr d j o=>if d = 0 /\ j = i then .bx (cs.drop o) else .ptr d j o
 | .agg l=>.agg (AV.fzs i cs l)
 | .tup l=>.tup (AV.fzs i cs l)
 | .fn f la lb=>.fn f (AV.fzs i cs la) (AV.fzs i cs lb)
 | .any=>.any
 | .un=>.un
 | .bl=>.bl
 | .p q=>.p q
 | .mp d j=>.mp d j
 | .asl d j n k=>.asl d j n k
 | .rsl d j n k=>.rsl d j n k
 | .rptr d j n o=>.rptr d j n o
 | .rp l=>.rp l
 | .bx l=>.bx (AV.fzs i cs l)
 | .osl k rows d j=>.osl k rows d j
def AV.fzs (i : Nat) (cs : List AV) : List AV -> List AV
 | []=>[]
 | c :: l=>c.fz i cs :: AV.fzs i cs l
end
theorem zEd (i : Nat) (cs : List AV) : ∀ (l : List AV) (j : Nat),(AV.fzs i cs l)[j]? = (l[j]?).map (AV.fz i cs)
 | [],j=>by simp [AV.fzs]
 | c :: l,0=>by simp [AV.fzs]
 | c :: l,j + 1=>by simp [AV.fzs,zEd i cs l j]
theorem zIl (i : Nat) (cs : List AV) (l : List AV) : (AV.fzs i cs l).length = l.length:=by
 induction l with
 | nil=>rfl
 | cons c l ih=>simp [AV.fzs,ih]
def Fzn (Pr : Prot) (φ : Fi2) (i : Nat) (cs : List AV) : Prop:=∃ (e : Ent) (g : Nat) (vs : Nat -> Value),get2 φ 0 i = some e /\ e.blk = some g /\ (∀ (j : Nat) (p : AV),cs[j]? = some p -> Pr g j = some (vs j)) /\ ∀ (j : Nat) (p : AV),cs[j]? = some p -> RA Pr φ p (vs j)
theorem RA.fz {Pr : Prot} {φ : Fi2} {i : Nat} {cs : List AV} (hz : Fzn Pr φ i cs) {v : AV} {x : Value} (h : RA Pr φ v x) : RA Pr φ (v.fz i cs) x:=by
 induction h with
 | any x=>exact .any x
 | un=>exact .un
 | bl b=>exact .bl b
 | p h=>exact .p h
 | @ptr d j o g e h1 h2 h3 =>
  unfold AV.fz;split
  .rename_i hc
   obtain ⟨rfl,rfl⟩:=hc
   obtain ⟨e',g',vs,k1,k2,k3,k4⟩:=hz
   rw [h1] at k1; cases k1;rw [h3] at k2; cases k2;exact .bx (fun j=>vs (o + j)) (fun j p hp=>k3 _ _ (by rw [List.getElem?_drop] at hp; exact hp)) (fun j p hp=>k4 _ _ (by rw [List.getElem?_drop] at hp; exact hp))
  .exact .ptr h1 h2 h3
 | mp h1 h2 h3=>exact .mp h1 h2 h3
 | asl h1 h2 h3 h4=>exact .asl h1 h2 h3 h4
 | rnil h1 h2 h3=>exact .rnil h1 h2 h3
 | rsl h1 h2 h3 h4 h5 h6 h7=>exact .rsl h1 h2 h3 h4 h5 h6 h7
 | rptr h1 h2 h3 h4=>exact .rptr h1 h2 h3 h4
 | rp vs h1 h2=>exact .rp vs h1 h2
 | bx vs h1 _ ih =>
  refine .bx vs (fun j c hc=>?_) (fun j c hc=>?_)
  .rw [zEd] at hc
   obtain ⟨c',h,rfl⟩:=Option.map_eq_some_iff.1 hc
   exact h1 j c' h
  .rw [zEd] at hc
   obtain ⟨c',h,rfl⟩:=Option.map_eq_some_iff.1 hc
   exact ih j c' h
 | onil h1 h2 h3=>exact .onil h1 h2 h3
 | osl vs h1 h2 h3 h4 h5 h6 h7 h8 h9 h10=>exact .osl vs h1 h2 h3 h4 h5 h6 h7 h8 h9 h10
 | agg h1 _ ih =>
  refine .agg (by rw [zIl]; exact h1) fun j c x hc hx=>?_
  rw [zEd] at hc
  obtain ⟨c',h,rfl⟩:=Option.map_eq_some_iff.1 hc
  exact ih j c' x h hx
 | tup h1 _ ih =>
  refine .tup (by rw [zIl]; exact h1) fun j c x hc hx=>?_
  rw [zEd] at hc
  obtain ⟨c',h,rfl⟩:=Option.map_eq_some_iff.1 hc
  exact ih j c' x h hx
 | fn h1 h2 _ _ ih1 ih2 =>
  refine .fn (by rw [zIl]; exact h1) (by rw [zIl]; exact h2) (fun j c x hc hx=>?_) (fun j c x hc hx=>?_)
  .rw [zEd] at hc
   obtain ⟨c',h,rfl⟩:=Option.map_eq_some_iff.1 hc
   exact ih1 j c' x h hx
  .rw [zEd] at hc
   obtain ⟨c',h,rfl⟩:=Option.map_eq_some_iff.1 hc
   exact ih2 j c' x h hx
theorem zXe {Pr : Prot} {φ : Fi2} {S : ASt} {w : World} (h : Rel Pr φ S w) {i : Nat} {cs : List AV} {t : TypeId} (ho : get2 S 0 i = some (.cells cs t)) : ∃ Pr',Stp Pr φ w Pr' φ w /\ Rel Pr' φ (set2 S 0 i .dead) w /\ Fzn Pr' φ i cs:=by
 obtain ⟨e,he,htok,g,xs,hg,hheap,hl,hc,hun⟩:=h.obj 0 i _ ho
 have hle : Pr.le (fun b o=>if b = g then xs[o]? else Pr b o):=fun b o v hv=>by
  by_cases hb : b = g
  .subst hb; rw [hun] at hv; cases hv
  .simp only [hb,if_false]; exact hv
 have hoff : ∀ b,b ≠ g -> ∀ o,Pr b o = none -> (fun b o=>if b = g then xs[o]? else Pr b o) b o = none:=fun b hb o hv=>by simp only [hb,if_false]; exact hv
 refine ⟨fun b o=>if b = g then xs[o]? else Pr b o,⟨hle,Fle.refl φ,fun d i e g h k=>.inl ⟨d,i,e,h,k⟩,⟨rfl,rfl,rfl,Nat.le_refl _,fun _ _ _=>rfl⟩,rfl,fun b o h0 h1=>?_⟩,⟨fun d j o hj=>?_,h.dis,h.lt,fun b o v hv=>?_,?_,?_⟩,e,g,fun j=>xs.getD j undef,he,hg,fun j p hp=>?_,fun j p hp=>?_⟩
 .by_cases hb : b = g
  .subst hb; exact .inl ⟨0,i,e,he,hg⟩
  .simp only [hb,if_false] at h1; exact absurd h0 h1
 .rw [zj _ ho] at hj
  split at hj
  .rename_i hc
   obtain ⟨rfl,rfl⟩:=hc
   cases hj;exact ⟨e,he,trivial⟩
  .rename_i hne
   obtain ⟨e',k1,k2⟩:=h.obj d j o hj
   refine ⟨e',k1,k2.keep hle (Fle.refl _) fun g' hg'=>⟨rfl,fun o' ho'=>hoff g' (fun hgg=>hne ?_) o' ho'⟩⟩
   subst hgg;exact h.dis d j e' 0 i e g' k1 he hg' hg
 .by_cases hb : b = g
  .subst hb
   simp only [if_true] at hv;rw [zBB hheap]; exact hv
  .simp only [hb,if_false] at hv
   exact h.pr b o v hv
 .exact h.tb.of hle (fun _ _ _=>rfl) fun d i e g a b=>.inl ⟨d,i,e,a,b⟩
 .rw [zBC]; exact h.shape
 .have hlt : j < xs.size:=by rw [<- hl]; exact (List.getElem?_eq_some_iff.1 hp).1
  simp [Array.getD,hlt]
 .have hlt : j < xs.size:=by rw [<- hl]; exact (List.getElem?_eq_some_iff.1 hp).1
  have h2:=(hc j p xs[j] hp (Array.getElem?_eq_getElem hlt)).mono hle (Fle.refl φ)
  simpa [Array.getD,hlt] using h2
def FzOk (S : ASt) : List (Nat × List AV × TypeId) -> AV -> Option AV
 | [],v=>some v
 | (i,cs,t) :: l,v=>FzOk (set2 S 0 i .dead) l (v.fz i cs)
def zNN (S : ASt) : List (Nat × List AV × TypeId) -> Prop
 | []=>True
 | (i,cs,t) :: l=>get2 S 0 i = some (.cells cs t) /\ zNN (set2 S 0 i .dead) l
theorem zT9 : ∀ (l : List (Nat × List AV × TypeId)) {Pr : Prot} {φ : Fi2} {S : ASt} {w : World} {v v' : AV} {x : Value},Rel Pr φ S w -> RA Pr φ v x -> zNN S l -> FzOk S l v = some v' -> ∃ Pr' S',Stp Pr φ w Pr' φ w /\ Rel Pr' φ S' w /\ RA Pr' φ v' x /\ S'.tail = S.tail
 | [],Pr,φ,S,w,v,v',x,hR,hx,_,h=>by cases h; exact ⟨Pr,S,Stp.refl _ _ _,hR,hx,rfl⟩
 | (i,cs,t) :: l,Pr,φ,S,w,v,v',x,hR,hx,⟨h1,h2⟩,h=>by
  obtain ⟨Pr1,s1,r1,f1⟩:=zXe hR h1
  obtain ⟨Pr2,S2,s2,r2,x2,t2⟩:=zT9 l r1 ((hx.mono s1.pl s1.fl).fz f1) h2 h
  refine ⟨Pr2,S2,s1.trans s2,r2,x2,t2.trans ?_⟩;unfold set2;cases S <;> rfl
def zVU (P : Program) (rs : List ResultVar) (l : List (Nat × List AV × TypeId)) (r : AV) (S' : ASt) : Exit -> List AV -> ASt -> Prop:=fun e fr S1 =>
 (e = .normal \/ e = .ret) /\ ∃ vs,resA P fr S1 rs = some vs /\ zNN S1 l /\ ((FzOk S1 l (retA vs)).bind (AV.down 1)) = some r /\ S1.tail = S'
theorem zSj (P : Program) (rs : List ResultVar) (l : List (Nat × List AV × TypeId)) (r : AV) (e : Exit) (fr : List AV) (S S1 : ASt) : zVU P rs l r S e fr S1 = ((e = .normal \/ e = .ret) /\ ∃ vs,resA P fr S1 rs = some vs /\ zNN S1 l /\ ((FzOk S1 l (retA vs)).bind (AV.down 1)) = some r /\ S1.tail = S):=by rw [zVU]
attribute [simp] zSj
theorem ADet.introFz {P : Program} {K : FuncId} {args : List AV} {S S' : ASt} {r : AV} {fn : Func} {c : Code} (l : List (Nat × List AV × TypeId)) (hm : P.follows .mixedOrders = true) (hK : ∀ xs w,(callFunc K xs).run P w = .ok (.enter K xs) w) (hf : P.funcs[K]? = some fn) (hb : fn.body = some c)
  (h : awp P c (AV.ups 1 args ++ List.replicate (fn.ntmps - args.length) .un) ([] :: S) (zVU P fn.results.toList l r S')) : ADet P K args S r S':=by
 refine ⟨hK,fun Pr φ xs w hargs hR hne=>?_⟩
 refine calls_of_wp hf hb ?_
 have hfr : RF Pr ([] :: φ) (AV.ups 1 args ++ List.replicate (fn.ntmps - args.length) .un) { tmps:=xs ++ Array.replicate (fn.ntmps - xs.size) undef,defers:=[] }:=by
  refine ⟨by simp [zAY,hargs.1],fun t v x hv hx=>?_⟩
  rcases Nat.lt_or_ge t args.length with ht | ht
  .rw [List.getElem?_append_left (by rw [zAY]; exact ht),zBV] at hv
   obtain ⟨v0,h0,rfl⟩:=Option.map_eq_some_iff.1 hv
   simp only at hx;rw [Array.getElem?_append_left (by rw [<- hargs.1]; exact ht)] at hx
   exact RA.up (k:=1) (hargs.2 t v0 x h0 hx)
  .rw [List.getElem?_append_right (by rw [zAY]; exact ht)] at hv
   simp only at hx;rw [Array.getElem?_append_right (by rw [<- hargs.1]; exact ht)] at hx
   rw [List.getElem?_replicate] at hv;rw [Array.getElem?_replicate] at hx;split at hv
   .split at hx
    .cases hv; cases hx; exact .un
    .cases hx
   .cases hv
 refine wp_mono (zCD hm c _ Pr ([] :: φ) _ _ ([] :: S) w hfr (zCz hR) (by simp) h) fun e a' w' hp=>?_
 obtain ⟨fr',S1,Pr',φ',⟨he,vs,h1,h2,h2b,h3⟩,h4,h5,h6,h7⟩:=hp
 obtain ⟨x,hx,hrun⟩:=zB8 (P:=P) (fn:=fn) h4 h5 h1
 obtain ⟨v2,hv2,hdown⟩:=Option.bind_eq_some_iff.1 h2b
 obtain ⟨Pr2,S2,s2,r2,x2,t2⟩:=zT9 l h5 hx h2 hv2
 have h62:=h6.trans s2
 have hne' : φ' ≠ []:=zZ h62 (by simp)
 obtain ⟨l',φ1,rfl⟩:=List.exists_cons_of_ne_nil hne'
 have hS1 : S2 ≠ []:=fun h0=>by have:=r2.shape; rw [h0] at this; simp at this
 obtain ⟨L',S3,rfl⟩:=List.exists_cons_of_ne_nil hS1
 rw [<- t2] at h3;simp only [List.tail_cons] at h3;subst h3
 have key : a'.defers = [] /\ ∃ v,(results fn a'.tmps).run P w' = .ok v w' /\ ∃ x Pr' φ',Ending.returned v = .returned x /\ Stp Pr φ w Pr' φ' w' /\ Rel Pr' φ' S3 w' /\ RA Pr' φ' r x :=
  ⟨h7,x,hrun,x,Pr2,φ1,rfl,zEX h62,zCC r2,x2.down r hdown⟩
 rcases he with rfl | rfl
 .exact key
 .exact key
end Go.Proofs.YtlclonljdagpkaaGreatDoor
namespace Go.Proofs.YtlclonljdagpkaaGreatDoor
open Go.RowKit
mutual
def AV.mrg (n : Nat) : AV -> AV
 | .ptr 0 i o=>.ptr 0 (n + i) o
 | .ptr 1 i o=>.ptr 0 i o
 | .ptr (d + 2) i o=>.ptr (d + 1) i o
 | .mp 0 i=>.mp 0 (n + i)
 | .mp 1 i=>.mp 0 i
 | .mp (d + 2) i=>.mp (d + 1) i
 | .asl 0 i m k=>.asl 0 (n + i) m k
 | .asl 1 i m k=>.asl 0 i m k
 | .asl (d + 2) i m k=>.asl (d + 1) i m k
 | .rsl 0 i m k=>.rsl 0 (n + i) m k
 | .rsl 1 i m k=>.rsl 0 i m k
 | .rsl (d + 2) i m k=>.rsl (d + 1) i m k
 | .rptr 0 i m o=>.rptr 0 (n + i) m o
 | .rptr 1 i m o=>.rptr 0 i m o
 | .rptr (d + 2) i m o=>.rptr (d + 1) i m o
 | .osl k rows 0 i=>.osl k rows 0 (n + i)
 | .osl k rows 1 i=>.osl k rows 0 i
 | .osl k rows (d + 2) i=>.osl k rows (d + 1) i
 | .agg cs=>.agg (AV.mrgs n cs)
 | .tup cs=>.tup (AV.mrgs n cs)
 | .fn f a b=>.fn f (AV.mrgs n a) (AV.mrgs n b)
 | .bx cs=>.bx (AV.mrgs n cs)
 | .any=>.any
 | .un=>.un
 | .bl=>.bl
 | .p q=>.p q
 | .rp cs=>.rp cs
def AV.mrgs (n : Nat) : List AV -> List AV
 | []=>[]
 | c :: cs=>c.mrg n :: AV.mrgs n cs
end
theorem zC9 (n : Nat) : ∀ cs : List AV,AV.mrgs n cs = cs.map (AV.mrg n)
 | []=>rfl
 | c :: cs=>by simp [AV.mrgs,zC9 n cs]
theorem zCR (n : Nat) (cs : List AV) (j : Nat) : (AV.mrgs n cs)[j]? = (cs[j]?).map (AV.mrg n):=by rw [zC9,List.getElem?_map]
theorem zD5 (n : Nat) (cs : List AV) : (AV.mrgs n cs).length = cs.length:=by rw [zC9,List.length_map]
def mrgD : Nat -> Nat
 | 0=>0
 | d + 1=>d
def mrgI (n : Nat) : Nat -> Nat -> Nat
 | 0,i=>n + i
 | _ + 1,i=>i
theorem zBt {α : Type} {l1 l : List α} {φ : List (List α)} {d i : Nat} {e : α} (h : get2 (l1 :: l :: φ) d i = some e) : get2 ((l ++ l1) :: φ) (mrgD d) (mrgI l.length d i) = some e:=by
 match d,h with
 | 0,h =>
  have h' : l1[i]? = some e:=h
  show (l ++ l1)[l.length + i]? = some e
  rw [List.getElem?_append_right (by omega),Nat.add_sub_cancel_left]; exact h'
 | 1,h =>
  have h' : l[i]? = some e:=h
  show (l ++ l1)[i]? = some e
  rw [List.getElem?_append_left (List.getElem?_eq_some_iff.1 h').1]; exact h'
 | d + 2,h=>exact h
theorem zBZ {α : Type} {l1 l : List α} {φ : List (List α)} {d i : Nat} {e : α} (h : get2 ((l ++ l1) :: φ) d i = some e) : ∃ d' i',get2 (l1 :: l :: φ) d' i' = some e /\ mrgD d' = d /\ mrgI l.length d' i' = i:=by
 match d,h with
 | 0,h =>
  have h' : (l ++ l1)[i]? = some e:=h
  rcases Nat.lt_or_ge i l.length with hi | hi
  .rw [List.getElem?_append_left hi] at h'
   exact ⟨1,i,h',rfl,rfl⟩
  .rw [List.getElem?_append_right hi] at h'
   exact ⟨0,i - l.length,h',rfl,by show l.length + (i - l.length) = i; omega⟩
 | d + 1,h=>exact ⟨d + 2,i,h,rfl,rfl⟩
theorem RA.mrg {Pr : Prot} {l1 l : List Ent} {φ : Fi2} {v : AV} {x : Value} (h : RA Pr (l1 :: l :: φ) v x) : RA Pr ((l ++ l1) :: φ) (v.mrg l.length) x:=by
 induction h with
 | any x=>exact .any x
 | un=>exact .un
 | bl b=>exact .bl b
 | p h=>exact .p h
 | @ptr d i o g e h1 h2 h3 =>
  have:=zBt h1
  match d,this with
  | 0,this=>exact .ptr this h2 h3
  | 1,this=>exact .ptr this h2 h3
  | d + 2,this=>exact .ptr this h2 h3
 | @mp d i g e h1 h2 h3 =>
  have:=zBt h1
  match d,this with
  | 0,this=>exact .mp this h2 h3
  | 1,this=>exact .mp this h2 h3
  | d + 2,this=>exact .mp this h2 h3
 | @asl d i n k g e h1 h2 h3 h4 =>
  have:=zBt h1
  match d,this with
  | 0,this=>exact .asl this h2 h3 h4
  | 1,this=>exact .asl this h2 h3 h4
  | d + 2,this=>exact .asl this h2 h3 h4
 | @rnil d i e h1 h2 h3 =>
  have:=zBt h1
  match d,this with
  | 0,this=>exact .rnil this h2 h3
  | 1,this=>exact .rnil this h2 h3
  | d + 2,this=>exact .rnil this h2 h3
 | @rsl d i n g cap e h1 h2 h3 h4 h5 h6 h7 =>
  have:=zBt h1
  match d,this with
  | 0,this=>exact .rsl this h2 h3 h4 h5 h6 h7
  | 1,this=>exact .rsl this h2 h3 h4 h5 h6 h7
  | d + 2,this=>exact .rsl this h2 h3 h4 h5 h6 h7
 | @rptr d i n o g e h1 h2 h3 h4 =>
  have:=zBt h1
  match d,this with
  | 0,this=>exact .rptr this h2 h3 h4
  | 1,this=>exact .rptr this h2 h3 h4
  | d + 2,this=>exact .rptr this h2 h3 h4
 | rp vs h1 h2=>exact .rp vs h1 h2
 | bx vs h1 _ ih =>
  refine .bx vs (fun j c hc=>?_) (fun j c hc=>?_)
  .rw [zCR] at hc
   obtain ⟨c',h,rfl⟩:=Option.map_eq_some_iff.1 hc
   exact h1 j c' h
  .rw [zCR] at hc
   obtain ⟨c',h,rfl⟩:=Option.map_eq_some_iff.1 hc
   exact ih j c' h
 | @onil d i e h1 h2 h3 =>
  have:=zBt h1
  match d,this with
  | 0,this=>exact .onil this h2 h3
  | 1,this=>exact .onil this h2 h3
  | d + 2,this=>exact .onil this h2 h3
 | @osl rows d i g cap e vs h1 h2 h3 h4 h5 h6 h7 h8 h9 h10 =>
  have:=zBt h1
  match d,this with
  | 0,this=>exact .osl vs this h2 h3 h4 h5 h6 h7 h8 h9 h10
  | 1,this=>exact .osl vs this h2 h3 h4 h5 h6 h7 h8 h9 h10
  | d + 2,this=>exact .osl vs this h2 h3 h4 h5 h6 h7 h8 h9 h10
 | agg h1 _ ih =>
  refine .agg (by rw [zD5]; exact h1) fun j c x hc hx=>?_
  rw [zCR] at hc
  obtain ⟨c',h,rfl⟩:=Option.map_eq_some_iff.1 hc
  exact ih j c' x h hx
 | tup h1 _ ih =>
  refine .tup (by rw [zD5]; exact h1) fun j c x hc hx=>?_
  rw [zCR] at hc
  obtain ⟨c',h,rfl⟩:=Option.map_eq_some_iff.1 hc
  exact ih j c' x h hx
 | fn h1 h2 _ _ ih1 ih2 =>
  refine .fn (by rw [zD5]; exact h1) (by rw [zD5]; exact h2) (fun j c x hc hx=>?_) (fun j c x hc hx=>?_)
  .rw [zCR] at hc
   obtain ⟨c',h,rfl⟩:=Option.map_eq_some_iff.1 hc
   exact ih1 j c' x h hx
  .rw [zCR] at hc
   obtain ⟨c',h,rfl⟩:=Option.map_eq_some_iff.1 hc
   exact ih2 j c' x h hx
def AObj.mrg (n : Nat) : AObj -> AObj
 | .cells cs t=>.cells (AV.mrgs n cs) t
 | .tok e k m=>.tok e k m
 | .row e k m cs=>.row e k m (AV.mrgs n cs)
 | .map es=>.map (es.map fun kv=>(kv.1,kv.2.mrg n))
 | .dead=>.dead
 | .raw _ _ _ _=>.dead
theorem RelO.mrg {Pr : Prot} {l1 l : List Ent} {φ : Fi2} {w : World} {o : AObj} {e : Ent} (h : RelO Pr (l1 :: l :: φ) w o e) : RelO Pr ((l ++ l1) :: φ) w (o.mrg l.length) e:=by
 cases o with
 | dead=>trivial
 | raw=>trivial
 | tok=>exact h
 | cells cs t =>
  obtain ⟨h0,g,xs,h1,h2,h3,h4,h5⟩:=h
  refine ⟨h0,g,xs,h1,h2,by rw [zD5]; exact h3,fun j c x a b=>?_,h5⟩
  rw [zCR] at a
  obtain ⟨c',h,rfl⟩:=Option.map_eq_some_iff.1 a
  exact (h4 j c' x h b).mrg
 | row E k n cs =>
  obtain ⟨h0,h1,h2,h3,h5,h4⟩:=h
  refine ⟨h0,h1,h2,h3,by rw [zD5]; exact h5,h4.imp id ?_⟩
  rintro ⟨g,xs,a,b,c,d,e1,f,q,i⟩
  refine ⟨g,xs,a,b,c,d,e1,f,fun j c x u v=>?_,i⟩
  rw [zCR] at u
  obtain ⟨c',h,rfl⟩:=Option.map_eq_some_iff.1 u
  exact (q j c' x h v).mrg
 | map es =>
  obtain ⟨h0,g,ents,clock,h1,h2,h3,h4,h5,h6⟩:=h
  refine ⟨h0,g,ents,clock,h1,h2,by simpa using h3,fun j kv en a b=>?_,h5,h6⟩
  rw [List.getElem?_map] at a
  obtain ⟨kv',h,rfl⟩:=Option.map_eq_some_iff.1 a
  exact ⟨(h4 j kv' en h b).1,(h4 j kv' en h b).2.mrg⟩
theorem zIm (l l1 : List Ent) (φ : Fi2) : Fle (l :: φ) ((l ++ l1) :: φ):=fun d i e h=>⟨e,by
 cases d with
 | zero =>
  have h' : l[i]? = some e:=h
  show (l ++ l1)[i]? = some e
  rw [List.getElem?_append_left (List.getElem?_eq_some_iff.1 h').1]; exact h'
 | succ d=>exact h,e.le_refl⟩
theorem zPm {Pr : Prot} {l1 l : List Ent} {φ : Fi2} {L1 L : List AObj} {R : ASt} {w : World} (h : Rel Pr (l1 :: l :: φ) (L1 :: L :: R) w) : Rel Pr ((l ++ l1) :: φ) ((L ++ L1.map (AObj.mrg L.length)) :: R) w:=by
 have hs:=h.shape
 simp only [List.map_cons,List.cons.injEq] at hs
 obtain ⟨hl1,hl,hsr⟩:=hs
 refine ⟨fun d i o ho=>?_,fun d i e d' i' e' g a b c f=>?_,fun d i e g a b=>?_,h.pr,fun g cs hm=>?_,?_⟩
 .cases d with
  | succ d =>
   obtain ⟨e,k1,k2⟩:=h.obj (d + 2) i o ho
   exact ⟨e,k1,k2⟩
  | zero =>
   have ho' : (L ++ L1.map (AObj.mrg L.length))[i]? = some o:=ho
   rcases Nat.lt_or_ge i L.length with hi | hi
   .rw [List.getElem?_append_left hi] at ho'
    obtain ⟨e,k1,k2⟩:=h.obj 1 i o ho'
    refine ⟨e,zBt k1,RelO.keep (φ:=l :: φ) k2 (Prot.le_refl _) (zIm l l1 φ) fun g _=>⟨rfl,fun _ h=>h⟩⟩
   .rw [List.getElem?_append_right hi,List.getElem?_map] at ho'
    obtain ⟨o0,h0,rfl⟩:=Option.map_eq_some_iff.1 ho'
    obtain ⟨e,k1,k2⟩:=h.obj 0 (i - L.length) o0 h0
    refine ⟨e,?_,?_⟩
    .have:=zBt k1
     rw [show mrgI l.length 0 (i - L.length) = i by show l.length + (i - L.length) = i; omega] at this
     exact this
    .have k3:=RelO.mrg (l1:=l1) (l:=l) (φ:=φ) k2
     rw [hl] at k3;exact k3
 .obtain ⟨d1,i1,a1,a2,a3⟩:=zBZ a
  obtain ⟨d2,i2,b1,b2,b3⟩:=zBZ b
  obtain ⟨rfl,rfl⟩:=h.dis _ _ _ _ _ _ g a1 b1 c f
  exact ⟨a2.symm.trans b2,a3.symm.trans b3⟩
 .obtain ⟨d1,i1,a1,a2,a3⟩:=zBZ a
  exact h.lt _ _ _ g a1 b
 .obtain ⟨t1,t2,t3,t4⟩:=h.tb g cs hm
  exact ⟨t1,t2,t3,fun d i e a=>by
   obtain ⟨d1,i1,a1,_,_⟩:=zBZ a
   exact t4 _ _ _ a1⟩
 .simp [hl,hl1,hsr]
def zPn (P : Program) (rs : List ResultVar) (r : AV) (S' : ASt) : Exit -> List AV -> ASt -> Prop:=fun e fr S1 =>
 (e = .normal \/ e = .ret) /\ ∃ vs,resA P fr S1 rs = some vs /\ ∃ L1 L R,S1 = L1 :: L :: R /\ (retA vs).mrg L.length = r /\ (L ++ L1.map (AObj.mrg L.length)) :: R = S'
theorem zAv (P : Program) (rs : List ResultVar) (r : AV) (e : Exit) (fr : List AV) (L1 L : List AObj) (R S' : ASt) : zPn P rs r S' e fr (L1 :: L :: R) = ((e = .normal \/ e = .ret) /\ ∃ vs,resA P fr (L1 :: L :: R) rs = some vs /\ (retA vs).mrg L.length = r /\ (L ++ L1.map (AObj.mrg L.length)) :: R = S'):=by
 unfold zPn
 apply propext
 constructor
 .rintro ⟨h,vs,h1,L1',L',R',h2,h3,h4⟩
  cases h2;exact ⟨h,vs,h1,h3,h4⟩
 .rintro ⟨h,vs,h1,h3,h4⟩
  exact ⟨h,vs,h1,_,_,_,rfl,h3,h4⟩
attribute [simp] zAv
theorem ADet.merge {P : Program} {K : FuncId} {args : List AV} {S S' : ASt} {r : AV} {fn : Func} {c : Code} (hm : P.follows .mixedOrders = true) (hK : ∀ xs w,(callFunc K xs).run P w = .ok (.enter K xs) w) (hf : P.funcs[K]? = some fn) (hb : fn.body = some c)
  (h : awp P c (AV.ups 1 args ++ List.replicate (fn.ntmps - args.length) .un) ([] :: S) (zPn P fn.results.toList r S')) : ADet P K args S r S':=by
 refine ⟨hK,fun Pr φ xs w hargs hR hne=>?_⟩
 refine calls_of_wp hf hb ?_
 have hfr : RF Pr ([] :: φ) (AV.ups 1 args ++ List.replicate (fn.ntmps - args.length) .un) { tmps:=xs ++ Array.replicate (fn.ntmps - xs.size) undef,defers:=[] }:=by
  refine ⟨by simp [zAY,hargs.1],fun t v x hv hx=>?_⟩
  rcases Nat.lt_or_ge t args.length with ht | ht
  .rw [List.getElem?_append_left (by rw [zAY]; exact ht),zBV] at hv
   obtain ⟨v0,h0,rfl⟩:=Option.map_eq_some_iff.1 hv
   simp only at hx;rw [Array.getElem?_append_left (by rw [<- hargs.1]; exact ht)] at hx
   exact RA.up (k:=1) (hargs.2 t v0 x h0 hx)
  .rw [List.getElem?_append_right (by rw [zAY]; exact ht)] at hv
   simp only at hx;rw [Array.getElem?_append_right (by rw [<- hargs.1]; exact ht)] at hx
   rw [List.getElem?_replicate] at hv;rw [Array.getElem?_replicate] at hx;split at hv
   .split at hx
    .cases hv; cases hx; exact .un
    .cases hx
   .cases hv
 refine wp_mono (zCD hm c _ Pr ([] :: φ) _ _ ([] :: S) w hfr (zCz hR) (by simp) h) fun e a' w' hp=>?_
 obtain ⟨fr',S1,Pr',φ',⟨he,vs,h1,L1,L,R,rfl,h2,h3⟩,h4,h5,h6,h7⟩:=hp
 obtain ⟨x,hx,hrun⟩:=zB8 (P:=P) (fn:=fn) h4 h5 h1
 have hne' : φ' ≠ []:=zZ h6 (by simp)
 obtain ⟨l1,φ0,rfl⟩:=List.exists_cons_of_ne_nil hne'
 have spop:=zEX h6
 have hne0 : φ0 ≠ []:=fun h0=>by have:=h5.shape; rw [h0] at this; simp at this
 obtain ⟨l,φ1,rfl⟩:=List.exists_cons_of_ne_nil hne0
 have hlen : l.length = L.length:=by have:=h5.shape; simp at this; exact this.2.1
 have hF:=zIm l l1 φ1
 have hS2 : Stp Pr φ w Pr' ((l ++ l1) :: φ1) w':=by
  refine ⟨spop.pl,spop.fl.trans hF,fun d i e g a b=>?_,spop.fr,?_,spop.pn⟩
  .obtain ⟨d1,i1,a1,_,_⟩:=zBZ a
   rcases h6.fresh _ _ _ g a1 b with ⟨d0,i0,e1,k1,k2⟩ | k1
   .cases d0 with
    | zero=>simp [get2] at k1
    | succ d0=>exact .inl ⟨d0,i0,e1,k1,k2⟩
   .exact .inr k1
  .have:=spop.len; simpa using this
 have hx2:=hx.mrg
 rw [hlen,h2] at hx2
 have hR2:=zPm h5
 rw [h3] at hR2
 have key : a'.defers = [] /\ ∃ v,(results fn a'.tmps).run P w' = .ok v w' /\ ∃ x Pr' φ',Ending.returned v = .returned x /\ Stp Pr φ w Pr' φ' w' /\ Rel Pr' φ' S' w' /\ RA Pr' φ' r x :=
  ⟨h7,x,hrun,x,Pr',_,rfl,hS2,hR2,hx2⟩
 rcases he with rfl | rfl
 .exact key
 .exact key
end Go.Proofs.YtlclonljdagpkaaGreatDoor
namespace Go.Proofs.YtlclonljdagpkaaGreatDoor
open Go.RowKit
def rowC {α : Type} (enc : α -> List PV) (l : List α) : List AV:=(l.map fun x=>(enc x).map AV.p).flatten
theorem zPo {α : Type} (enc : α -> List PV) (l : List α) {q : Nat} (h : q < l.length) : rowC enc (l.take (q + 1)) = rowC enc (l.take q) ++ (enc l[q]).map AV.p:=by
 unfold rowC;rw [List.take_add_one,List.map_append,List.flatten_append,List.getElem?_eq_getElem h];simp
theorem zUA {α : Type} {enc : α -> List PV} {l : List α} : ∀ c ∈ rowC enc l,∃ q,c = .p q:=fun c hc=>by
 obtain ⟨cs,h1,h2⟩:=List.mem_flatten.1 hc
 obtain ⟨x,_,rfl⟩:=List.mem_map.1 h1
 obtain ⟨q,_,rfl⟩:=List.mem_map.1 h2
 exact ⟨q,rfl⟩
theorem zD6 {α : Type} (enc : α -> List PV) (l : List α) (n : Nat) : AV.cuts n (rowC enc l) = rowC enc l:=by
 rw [zBr]
 conv=>rhs; rw [<- List.map_id (rowC enc l)]
 exact List.map_congr_left fun c hc=>by obtain ⟨q,rfl⟩:=zUA c hc; rfl
theorem zF5 {α : Type} (enc : α -> List PV) (l : List α) (n : Nat) : AV.mrgs n (rowC enc l) = rowC enc l:=by
 rw [zC9]
 conv=>rhs; rw [<- List.map_id (rowC enc l)]
 exact List.map_congr_left fun c hc=>by obtain ⟨q,rfl⟩:=zUA c hc; rfl
end Go.Proofs.YtlclonljdagpkaaGreatDoor
