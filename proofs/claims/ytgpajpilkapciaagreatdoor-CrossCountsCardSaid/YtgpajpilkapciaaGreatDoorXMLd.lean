/- A part of the proof. -/
import Derived.Test.YtgpajpilkapciaaGreatDoorXMLt
import Derived.Defers
set_option linter.unusedVariables false
set_option linter.unusedSimpArgs false
set_option maxRecDepth 100000
set_option maxHeartbeats 32000000
namespace Go.Proofs.YtgpajpilkapciaaGreatDoor
open Go.RowKit
def zQE(P:Program)(K:FuncId)(args:List AV)(S S':ASt):Prop:=
 (∀xs w,(callFunc K xs).run P w= .ok (.enter K xs) w)/\∀Pr φ (xs:Array Value) w u,u≠ .run->RL Pr φ args xs->Rel Pr φ S w->φ≠ []->
  CallsD P K xs u w fun e u' w'=>u'=u/\∃x Pr' φ',e= .returned x/\Stp Pr φ w Pr' φ' w'/\Rel Pr' φ' S' w'
def RetD(S':ASt):Exit->List AV->ASt->Prop:=fun e fr S1=>(e= .normal\/e= .ret)/\S1.tail=S'
theorem zJW(S':ASt)(e:Exit)(fr:List AV)(L:List AObj)(R:ASt):RetD S' e fr (L::R)=((e= .normal\/e= .ret)/\R=S'):=rfl
theorem zEK{P:Program}{fn:Func}(h:fn.results= #[])(tmps:Array Value)(w:World):(results fn tmps).run P w= .ok (.tuple #[]) w:=by
 rw[zIe,h];simp
section
variable{P:Program}
theorem zDm{Pr:Prot}{φ:Fi2}{args:List AV}{xs:Array Value}{n:Nat}(ea:RL Pr φ args xs):RF Pr ([]::φ) (AV.ups 1 args++List.replicate (n-args.length) .un) {tmps:=xs++Array.replicate (n-xs.size) undef,defers:=[]}:=by
 refine⟨by simp[zAW,ea.1],fun t v x hv hx=>?_⟩
 rcases Nat.lt_or_ge t args.length with ht|ht
 .rw[List.getElem?_append_left (by rw[zAW];exact ht),zB0]at hv
  obtain⟨v0,h0,rfl⟩:=Option.map_eq_some_iff.1 hv
  simp only at hx;rw[Array.getElem?_append_left (by rw[<-ea.1];exact ht)]at hx
  exact RA.up (k:=1) (ea.2 t v0 x h0 hx)
 rw[List.getElem?_append_right (by rw[zAW];exact ht)]at hv
 simp only at hx;rw[Array.getElem?_append_right (by rw[<-ea.1];exact ht)]at hx
 rw[List.getElem?_replicate]at hv;rw[Array.getElem?_replicate]at hx;split at hv
 .split at hx
  .cases hv;cases hx;exact .un
  cases hx
 cases hv
theorem zQE.intro{K:FuncId}{args:List AV}{S S':ASt}{fn:Func}{c:Code}(hm:P.follows .mixedOrders=true)(hK:∀xs w,(callFunc K xs).run P w= .ok (.enter K xs) w)(hf:P.funcs[K]? =some fn)(hb:fn.body=some c)(Tb:fn.results= #[])
  (h:awp P c (AV.ups 1 args++List.replicate (fn.ntmps-args.length) .un) ([]::S) (RetD S')):zQE P K args S S':=by
 refine⟨hK,fun Pr φ xs w u hu ea hR hne=>?_⟩
 refine callsD_of_wp hf hb ?_;refine wp_mono (zCx hm c _ Pr ([]::φ) _ _ ([]::S) w (zDm ea) (zCa hR) (by simp) h) fun e a' w' hp=>?_
 obtain⟨ia,S1,Pr',φ',⟨he,h3⟩,h4,h5,h6,h7⟩:=hp
 have Wb:φ'≠ []:=zJ h6 (by simp)
 obtain⟨l',φ1,rfl⟩:=List.exists_cons_of_ne_nil Wb
 have lc:S1≠ []:=fun h0=>by have:=h5.shape;rw[h0]at this;simp at this
 obtain⟨L',S2,rfl⟩:=List.exists_cons_of_ne_nil lc
 simp only[List.tail_cons]at h3;subst h3
 have key:a'.defers=[]/\∃v,(results fn a'.tmps).run P w'= .ok v w'/\∃x Pr' φ',Ending.returned v= .returned x/\Stp Pr φ w Pr' φ' w'/\Rel Pr' φ' S2 w':=
  ⟨h7,_,zEK Tb _ _,_,Pr',φ1,rfl,zCw h6,zB1 h5⟩
 rcases he with rfl|rfl
 .exact key
 exact key
def DR(Pr:Prot)(φ:Fi2):List AV->List Deferred->Prop
 | [],[]=>True
 |v::vs,d::ds=>(∃f la lb cap,v= .fn f la lb/\d.target= .fn f cap/\RA Pr φ (.fn f la lb) (.func f d.args cap))/\DR Pr φ vs ds
 |_,_=>False
theorem DR.mono{Pr Pr':Prot}{φ φ':Fi2}(hl:Pr.le Pr')(hf:Fle φ φ'):∀{vs:List AV} {ds:List Deferred},DR Pr φ vs ds->DR Pr' φ' vs ds
 | [],[],_=>trivial
 |v::vs,d::ds,⟨⟨f,la,lb,cap,h1,h2,h3⟩,h⟩=>⟨⟨f,la,lb,cap,h1,h2,h3.mono hl hf⟩,DR.mono hl hf h⟩
 | [],_::_,h=>h.elim
 |_::_,[],h=>h.elim
theorem DR.cut{Pr:Prot}{l:List Ent}{φ:Fi2}{n:Nat}:∀{vs:List AV} {ds:List Deferred},DR Pr (l::φ) vs ds->DR Pr (l.take n::φ) (AV.cuts n vs) ds
 | [],[],_=>trivial
 |v::vs,d::ds,⟨⟨f,la,lb,cap,h1,h2,h3⟩,h⟩=>⟨⟨f,AV.cuts n la,AV.cuts n lb,cap,by rw[h1];rfl,h2,by have:=h3.cut (n:=n);simpa [AV.cut]using this⟩,DR.cut h⟩
 | [],_::_,h=>h.elim
 |_::_,[],h=>h.elim
def DRun(P:Program):List AV->ASt->ASt->Prop
 | [],S,S'=>S=S'
 | .fn (.func K) la lb::vs,S,S'=>∃S1,zQE P K (la++lb) S S1/\DRun P vs S1 S'
 |_::_,_,_=>False
theorem zHd{fn:Func}(Tb:fn.results= #[]){tmps:Array Value}{R:Ending->World->Prop}{Pr0:Prot}{φ0:Fi2}{w0:World}{S':ASt}(Ui:∀Pr φ w,Stp Pr0 φ0 w0 Pr φ w->Rel Pr φ S' w->R (.returned (.tuple #[])) w):
  ∀(vs:List AV) (ds:List Deferred) (Pr:Prot) (φ:Fi2) (S:ASt) (w:World),DR Pr φ vs ds->Rel Pr φ S w->φ≠ []->Stp Pr0 φ0 w0 Pr φ w->DRun P vs S S'->Leaves P fn tmps R ds .returning w
 | [],[],Pr,φ,S,w,hd,hR,hne,hs,hk=>⟨_,zEK Tb _ _,Ui Pr φ w hs (by cases hk;exact hR)⟩
 | [],_::_,Pr,φ,S,w,hd,hR,hne,hs,hk=>hd.elim
 |_::_,[],Pr,φ,S,w,hd,hR,hne,hs,hk=>hd.elim
 |v::vs,d::ds,Pr,φ,S,w,⟨⟨f,la,lb,cap,h1,h2,h3⟩,hd⟩,hR,hne,hs,hk=>by
  subst h1
  cases f with
  |func K=>
   obtain⟨S1,⟨hK,hc⟩,hk⟩:=hk
   obtain⟨t,xs⟩:=d
   simp only at h2 h3;subst h2
   cases h3 with
   |fn l1 l2 c1 c2=>
    have ea:RL Pr φ (la++lb) (xs++cap):=RL.append ⟨l1,c1⟩ ⟨l2,c2⟩
    refine leaves_cons (by simp) (f:=K) (args:=xs++cap) (by simp[invoke,hK]) ?_
    refine(hc Pr φ _ w .returning (by simp) ea hR hne).mono fun e u' w' hp=>?_
    obtain⟨rfl,x,Pr',φ',rfl,s1,r1⟩:=hp
    exact zHd Tb Ui vs ds Pr' φ' S1 w' (hd.mono s1.pl s1.fl) r1 (zJ s1 hne) (hs.trans s1) hk
  |_=>exact hk.elim
def zD7(Pr:Prot)(φ:Fi2)(w:World)(Q:Exit->List AV->ASt->List AV->Prop):Exit->Act->World->Prop:=fun e a' w'=>
 ∃ia S' yc Pr' φ',Q e ia S' yc/\RF Pr' φ' ia a'/\Rel Pr' φ' S' w'/\Stp Pr φ w Pr' φ' w'/\DR Pr' φ' yc a'.defers
def zIk(o:Oper)(fr:List AV):Option AV:=
 match o.op with
 | .defer c=>
  match c.callee with
  | .value f=>
   match evA fr f with
   | .fn g fsts caps=>some (.fn g (fsts++c.args.toList.map (evA fr)) caps)
   |_=>none
  |_=>none
 |_=>none
def zAl(P:Program)(ops:Array Oper):List Oper->List AV->ASt->List AV->(List AV->ASt->List AV->Prop)->Prop
 | [],fr,S,ds,K=>K fr S ds
 |o::os,fr,S,ds,K=>
  match zBU ops o fr with
  |some true=>
   match zIk o fr with
   |some v=>zAl P ops os (putA fr o.dst .un) S (v::ds) K
   |none=>
    match zCd o fr with
    |some (F,args)=>∃r S',ADet P F args S r S'/\zAl P ops os (putA fr o.dst r) S' ds K
    |none=>
     match zDM P o fr S with
     |some (v,S')=>zAl P ops os (putA fr o.dst v) S' ds K
     |none=>False
  |some false=>zAl P ops os (putA fr o.dst .un) S ds K
  |none=>False
theorem zC1{ops:Array Oper}{K:List AV->ASt->List AV->Prop}{Q:Exit->List AV->ASt->List AV->Prop}(hQ:∀fr S ds,K fr S ds->Q .normal fr S ds){Pr0:Prot}{φ0:Fi2}{w0:World}:∀(os:List Oper) (i:Nat),ops.toList.drop i=os->∀(Pr:Prot) (φ:Fi2) (fr:List AV) (a:Act) (S:ASt) (ds:List AV) (w:World),RF Pr φ fr a->Rel Pr φ S w->φ≠ []->Stp Pr0 φ0 w0 Pr φ w->DR Pr φ ds a.defers->zAl P ops os fr S ds K->
  wpOps P ops (zD7 Pr0 φ0 w0 Q) (List.range' i os.length) a w
 | [],i,hi,Pr,φ,fr,a,S,ds,w,h,hR,hne,Id,Dd,hk=>⟨fr,S,ds,Pr,φ,hQ _ _ _ hk,h,hR,Id,Dd⟩
 |o::os,i,hi,Pr,φ,fr,a,S,ds,w,h,hR,hne,Id,Dd,hk=>by
  have ho:ops[i]? =some o:=by
   have:(ops.toList.drop i)[0]? =some o:=by rw[hi];rfl
   rw[List.getElem?_drop]at this
   simpa using this
  have Nd:ops.toList.drop (i+1)=os:=by rw[<-List.drop_drop,hi];rfl
  simp only[List.length_cons,List.range'_succ];rw[wpOps_cons];unfold wpOp;rw[ho];simp only[zAl]at hk
  have step:∀{v:AV} {S':ASt},Stepped P o fr S v S'->zAl P ops os (putA fr o.dst v) S' ds K->Region.wanted o (yielded ops a.tmps)=true->o.wp P a w (wpOps P ops (zD7 Pr0 φ0 w0 Q) (List.range' (i+1) os.length)) (zD7 Pr0 φ0 w0 Q):=fun hs Ea hw=>
   zAX h hR hne hs fun x w' Pr' φ' s1 s2 s3=>zC1 hQ os (i+1) Nd Pr' φ' _ _ _ ds w' ((h.mono s1.pl s1.fl).put o.dst s3) s2 (zJ s1 hne) (Id.trans s1) (by rw[z8];exact Dd.mono s1.pl s1.fl) Ea
  split at hk
  .rename_i hw
   simp only[zAx h hw,if_true];refine .inl ?_;split at hk
   .rename_i v hv
    unfold zIk at hv;split at hv
    .rename_i c hop
     split at hv
     .rename_i f fo
      split at hv
      .rename_i g fsts caps he
       cases hv
       have Zf:=h.ev f
       rw[he]at Zf
       generalize hy:a.eval f=y at Zf
       cases Zf with
       | @fn _ _ _ xs ys l1 l2 c1 c2=>
        have ua:(execOp a.eval o).run P w= .ok (.defer {target:=.fn g ys,args:=xs++c.args.map a.eval}) w:=by
         simp[execOp,hop,resolve,fo,hy,Deferred.ofValue]
        simp only[Oper.wp,ua,Oper.upon_defer]
        have hA:RL Pr φ (fsts++c.args.toList.map (evA fr)) (xs++c.args.map a.eval):=RL.append ⟨l1,c1⟩ ⟨by simp,fun j q x hq hx=>by
         rw[List.getElem?_map]at hq
         obtain⟨q0,h0,rfl⟩:=Option.map_eq_some_iff.1 hq
         have fa:c.args[j]? =some q0:=by simpa using h0
         rw[Array.getElem?_map,fa]at hx;cases hx;exact h.ev _⟩
        have Hh:RF Pr φ (putA fr o.dst .un) ({a with defers:={target:=.fn g ys,args:=xs++c.args.map a.eval}::a.defers}.put o.dst undef):=by
         have h1:RF Pr φ fr {a with defers:={target:=.fn g ys,args:=xs++c.args.map a.eval}::a.defers}:=⟨h.len,h.at_⟩
         exact h1.put o.dst .un
        refine zC1 hQ os (i+1) Nd Pr φ _ _ S _ w Hh hR hne Id ?_ hk;rw[z8];exact⟨⟨g,_,caps,ys,rfl,rfl,.fn hA.1 l2 hA.2 c2⟩,Dd⟩
      cases hv
     cases hv
    cases hv
   split at hk
   .rename_i F args hc
    obtain⟨r,S',h1,h2⟩:=hk
    exact step (zDj hc h1) h2 (zAx h hw)
   split at hk
   .rename_i v S' hs
    exact step (zFZ hs) hk (zAx h hw)
   exact hk.elim
  .rename_i hw
   simp only[zAx h hw,Bool.false_eq_true,if_false];exact zC1 hQ os (i+1) Nd Pr φ _ _ S ds w (h.put o.dst (Pr:=Pr) (φ:=φ) (v:=.un) (x:=undef) .un) hR hne Id (by rw[z8];exact Dd) hk
  exact hk.elim
def zFE(o:Oper):Bool:=match o.op with| .defer _=>true|_=>false
def zKd{α:Type}(I:α->Prop)(F:α->List AV)(G:α->ASt)(D:α->List AV)(μ:α->Nat)(m:Nat)(n:α->Nat)(Q:Exit->List AV->ASt->List AV->Prop):Exit->List AV->ASt->List AV->Prop:=fun e ia S' yc=>
 match e with
 | .normal=>∃a',I a'/\μ a'<m/\wkR (AV.cuts (n a') ia) (F a')/\wkT (trim (n a') S') (G a')/\AV.cuts (n a') yc=D a'
 |e=>Q e ia S' yc
def zQF(body:List AV->ASt->List AV->(Exit->List AV->ASt->List AV->Prop)->Prop)(fr:List AV)(S:ASt)(ds:List AV)(Q:Exit->List AV->ASt->List AV->Prop):Prop:=
 ∃(α:Type) (I:α->Prop) (F:α->List AV) (G:α->ASt) (D:α->List AV) (μ:α->Nat) (a0:α) (n:α->Nat),I a0/\wkR fr (F a0)/\wkT S (G a0)/\ds=D a0/\(∀a,I a->top (G a0)<=n a)/\∀a,I a->body (F a) (G a) (D a) (zKd I F G D μ (μ a) n Q)
def zBu(P:Program):Code->List AV->ASt->List AV->(Exit->List AV->ASt->List AV->Prop)->Prop
 | .region id ops cb,fr,S,ds,Q=>if(ops.toList.any zFE&& !cb)=true then zAl P ops ops.toList fr S ds (Q .normal)else awp P (.region id ops cb) fr S fun e fr S=>Q e fr S ds
 | .seq a b,fr,S,ds,Q=>zBu P a fr S ds fun e fr S ds=>
  match e with
  | .normal=>zBu P b fr S ds Q
  |e=>Q e fr S ds
 | .cond c t e,fr,S,ds,Q=>
  match evA fr c with
  | .p (.v (.bool b))=>if b=true then zBu P t fr S ds Q else zBu P e fr S ds Q
  |_=>False
 | .block id body,fr,S,ds,Q=>zBu P body fr S ds fun e fr S ds=>
  match e with
  | .exit j=>if j=id then Q .normal fr S ds else Q (.exit j) fr S ds
  |e=>Q e fr S ds
 | .loop body,fr,S,ds,Q=>zQF (zBu P body) fr S ds Q
 | .exit id,fr,S,ds,Q=>Q (.exit id) fr S ds
 | .label _,fr,S,ds,Q=>Q .normal fr S ds
 | .ret,fr,S,ds,Q=>Q .ret fr S ds
 | .skip,fr,S,ds,Q=>Q .normal fr S ds
 |_,_,_,_,_=>False
theorem zD7.trans{Pr rb:Prot}{φ φ1:Fi2}{w w1:World}{Q:Exit->List AV->ASt->List AV->Prop}(h:Stp Pr φ w rb φ1 w1)(e:Exit)(a':Act)(w':World)(hp:zD7 rb φ1 w1 Q e a' w'):zD7 Pr φ w Q e a' w':=by
 obtain⟨ia,S',yc,Pr',φ',h1,h2,h3,h4,h5⟩:=hp
 exact⟨ia,S',yc,Pr',φ',h1,h2,h3,h.trans h4,h5⟩
theorem zTa{c:Code}(hm:P.follows .mixedOrders=true){Q:Exit->List AV->ASt->List AV->Prop}{Pr:Prot}{φ:Fi2}{fr:List AV}{a:Act}{S:ASt}{ds:List AV}{w:World}(h:RF Pr φ fr a)(hR:Rel Pr φ S w)(hne:φ≠ [])(hd:DR Pr φ ds a.defers)(hk:awp P c fr S fun e fr S=>Q e fr S ds):c.wp P (zD7 Pr φ w Q) a w:=
 wp_mono (zCx hm c _ Pr φ fr a S w h hR hne hk) fun e a' w' hp=>by
  obtain⟨ia,S',Pr',φ',h1,h2,h3,h4,h5⟩:=hp
  exact⟨ia,S',ds,Pr',φ',h1,h2,h3,h4,by rw[h5];exact hd.mono h4.pl h4.fl⟩
theorem zDn(hm:P.follows .mixedOrders=true):∀(c:Code) (Q:Exit->List AV->ASt->List AV->Prop) (Pr:Prot) (φ:Fi2) (fr:List AV) (a:Act) (S:ASt) (ds:List AV) (w:World),RF Pr φ fr a->Rel Pr φ S w->φ≠ []->DR Pr φ ds a.defers->zBu P c fr S ds Q->c.wp P (zD7 Pr φ w Q) a w
 | .skip,Q,Pr,φ,fr,a,S,ds,w,h,hR,hne,hd,hk=>wp_skip ⟨fr,S,ds,Pr,φ,hk,h,hR,Stp.refl _ _ _,hd⟩
 | .label l,Q,Pr,φ,fr,a,S,ds,w,h,hR,hne,hd,hk=>wp_label ⟨fr,S,ds,Pr,φ,hk,h,hR,Stp.refl _ _ _,hd⟩
 | .exit id,Q,Pr,φ,fr,a,S,ds,w,h,hR,hne,hd,hk=>wp_exit ⟨fr,S,ds,Pr,φ,hk,h,hR,Stp.refl _ _ _,hd⟩
 | .ret,Q,Pr,φ,fr,a,S,ds,w,h,hR,hne,hd,hk=>wp_ret ⟨fr,S,ds,Pr,φ,hk,h,hR,Stp.refl _ _ _,hd⟩
 | .region id ops cb,Q,Pr,φ,fr,a,S,ds,w,h,hR,hne,hd,hk=>by
  simp only[zBu]at hk;split at hk
  .rename_i hc
   simp only[Bool.and_eq_true,Bool.not_eq_true']at hc;rw[hc.2];refine wp_region ?_
   have:=zC1 (Q:=Q) (fun _ _ _ h=>h) ops.toList 0 rfl Pr φ fr a S ds w h hR hne (Stp.refl _ _ _) hd hk
   rwa [List.range_eq_range',<-Array.length_toList]
  exact zTa hm h hR hne hd hk
 | .seq x y,Q,Pr,φ,fr,a,S,ds,w,h,hR,hne,hd,hk=>by
  refine wp_seq (wp_mono (zDn hm x _ Pr φ fr a S ds w h hR hne hd hk) fun e a' w' hp=>?_)
  obtain⟨ia,S',yc,Pr',φ',h1,h2,h3,h4,h5⟩:=hp
  cases e with
  |normal=>exact wp_mono (zDn hm y Q Pr' φ' ia a' S' yc w' h2 h3 (zJ h4 hne) h5 h1) fun e Mg Ng hp=>zD7.trans h4 e Mg Ng hp
  |_=>exact⟨ia,S',yc,Pr',φ',h1,h2,h3,h4,h5⟩
 | .cond c t e,Q,Pr,φ,fr,a,S,ds,w,h,hR,hne,hd,hk=>by
  simp only[zBu]at hk;split at hk
  .rename_i b hb
   have hc:=zO (h.ev c) (by rw[hb];rfl)
   refine wp_cond hc ?_
   cases b with
   |true=>exact zDn hm t Q Pr φ fr a S ds w h hR hne hd hk
   |false=>exact zDn hm e Q Pr φ fr a S ds w h hR hne hd hk
  exact hk.elim
 | .block id body,Q,Pr,φ,fr,a,S,ds,w,h,hR,hne,hd,hk=>by
  refine wp_block (wp_mono (zDn hm body _ Pr φ fr a S ds w h hR hne hd hk) fun e a' w' hp=>?_)
  obtain⟨ia,S',yc,Pr',φ',h1,h2,h3,h4,h5⟩:=hp
  cases e with
  |exit j=>
   simp only[Exit.inBlock];simp only at h1;split
   .rename_i hj
    rw[if_pos hj]at h1;exact⟨ia,S',yc,Pr',φ',h1,h2,h3,h4,h5⟩
   rename_i hj
   rw[if_neg hj]at h1
   exact⟨ia,S',yc,Pr',φ',h1,h2,h3,h4,h5⟩
  |_=>exact⟨ia,S',yc,Pr',φ',h1,h2,h3,h4,h5⟩
 | .loop body,Q,Pr,φ,fr,a,S,ds,w,h,hR,hne,hd,hk=>by
  obtain⟨α,I,F,G,D,μ,a0,n,hI,mb,Bg,io,hn,hb⟩:=hk
  have Db:RF Pr φ (F a0) a:=h.wk (zEB mb)
  have tf:Rel Pr φ (G a0) w:=zEA hR (zEC Bg)
  have hn2:top φ=top (G a0):=zBo tf.shape
  refine wp_loop_ghost (fun k a1 w1=>∃m rb φ1,I m/\μ m=k/\RF rb φ1 (F m) a1/\Rel rb φ1 (G m) w1/\Stp Pr φ w rb φ1 w1/\DR rb φ1 (D m) a1.defers) (μ a0) ⟨a0,Pr,φ,hI,rfl,Db,tf,Stp.refl _ _ _,by rw[<-io];exact hd⟩ ?_
  rintro k a1 w1 ⟨m,rb,φ1,Dh,rfl,hf,hr,hs,kc⟩
  refine wp_mono (zDn hm body _ rb φ1 (F m) a1 (G m) (D m) w1 hf hr (zJ hs hne) kc (hb m Dh)) fun e a2 w2 hp=>?_
  obtain⟨ia,S',yc,jc,φ2,h1,h2,h3,h4,h5⟩:=hp
  cases e with
  |normal=>
   obtain⟨m',Ae,hlt,Eh,ag,jo⟩:=h1
   have pb:=hs.trans h4
   have nc:φ2≠ []:=zJ pb hne
   obtain⟨l2,φr,rfl⟩:=List.exists_cons_of_ne_nil nc
   obtain⟨l0,φ0,rfl⟩:=List.exists_cons_of_ne_nil hne
   have uf:S'≠ []:=fun h0=>by have:=h3.shape;rw[h0]at this;simp at this
   obtain⟨L',SR,rfl⟩:=List.exists_cons_of_ne_nil uf
   have Ve:l0.length<=n m':=Nat.le_trans (Nat.le_of_eq hn2) (hn m' Ae)
   have Be:RF jc (l2.take (n m')::φr) (AV.cuts (n m') ia) a2:=⟨by rw[zB8];exact h2.len,fun t c x hc hx=>by
    rw[zBi]at hc
    obtain⟨c0,h0,rfl⟩:=Option.map_eq_some_iff.1 hc
    exact(h2.at_ t c0 x h0 hx).cut⟩
   exact⟨μ m',hlt,m',jc,l2.take (n m')::φr,Ae,rfl,Be.wk (zEB Eh),zEA (zDi h3 (n m')) (zEC ag),zEf pb Ve,by rw[<-jo];exact h5.cut⟩
  |_=>exact⟨ia,S',yc,jc,φ2,h1,h2,h3,hs.trans h4,h5⟩
 | .scope _,Q,Pr,φ,fr,a,S,ds,w,h,hR,hne,hd,hk=>hk.elim
 | .rangeFunc _ _ _ _,Q,Pr,φ,fr,a,S,ds,w,h,hR,hne,hd,hk=>hk.elim
 | .goto _,Q,Pr,φ,fr,a,S,ds,w,h,hR,hne,hd,hk=>hk.elim
 | .refuse _,Q,Pr,φ,fr,a,S,ds,w,h,hR,hne,hd,hk=>hk.elim
def zJX(P:Program)(S':ASt):Exit->List AV->ASt->List AV->Prop:=fun e fr S1 ds=>(e= .normal\/e= .ret)/\∃S2,DRun P ds S1 S2/\S2.tail=S'
theorem ADet.introD{K:FuncId}{args:List AV}{S S':ASt}{fn:Func}{c:Code}(hm:P.follows .mixedOrders=true)(hK:∀xs w,(callFunc K xs).run P w= .ok (.enter K xs) w)(hf:P.funcs[K]? =some fn)(hb:fn.body=some c)(Tb:fn.results= #[])
  (h:zBu P c (AV.ups 1 args++List.replicate (fn.ntmps-args.length) .un) ([]::S) [] (zJX P S')):ADet P K args S .un S':=by
 refine⟨hK,fun Pr φ xs w ea hR hne=>?_⟩
 refine calls_of_wp_defers hf hb ?_;refine wp_mono (zDn hm c _ Pr ([]::φ) _ _ ([]::S) [] w (zDm ea) (zCa hR) (by simp) trivial h) fun e a' w' hp=>?_
 obtain⟨ia,S1,ds,Pr',φ',⟨he,S2,ua,h3⟩,h4,h5,h6,h7⟩:=hp
 have key:Leaves P fn a'.tmps (fun e w'=>∃x Pr' φ',e= .returned x/\Stp Pr φ w Pr' φ' w'/\Rel Pr' φ' S' w'/\RA Pr' φ' .un x) a'.defers .returning w':=by
  refine zHd (P:=P) Tb (Pr0:=Pr) (φ0:=[]::φ) (w0:=w) (S':=S2) (fun jc φ2 w2 s2 r2=>?_) ds a'.defers Pr' φ' S1 w' h7 h5 (zJ h6 (by simp)) h6 ua
  have Wb:φ2≠ []:=zJ s2 (by simp)
  obtain⟨l',φ1,rfl⟩:=List.exists_cons_of_ne_nil Wb
  have lc:S2≠ []:=fun h0=>by have:=r2.shape;rw[h0]at this;simp at this
  obtain⟨L',S3,rfl⟩:=List.exists_cons_of_ne_nil lc
  simp only[List.tail_cons]at h3;subst h3;exact⟨_,jc,φ1,rfl,zCw s2,zB1 r2,.un⟩
 rcases he with rfl|rfl
 .exact key
 exact key
end
section
variable{P:Program}{fr:List AV}{S:ASt}{ds:List AV}{Q:Exit->List AV->ASt->List AV->Prop}
def zTb(P:Program)(b:Code)(Q:Exit->List AV->ASt->List AV->Prop)(e:Exit)(fr:List AV)(S:ASt)(ds:List AV):Prop:=match e with| .normal=>zBu P b fr S ds Q|e=>Q e fr S ds
def zQG(id:Nat)(Q:Exit->List AV->ASt->List AV->Prop)(e:Exit)(fr:List AV)(S:ASt)(ds:List AV):Prop:=match e with| .exit j=>if j=id then Q .normal fr S ds else Q (.exit j) fr S ds|e=>Q e fr S ds
def zQH(ds:List AV)(Q:Exit->List AV->ASt->List AV->Prop)(e:Exit)(fr:List AV)(S:ASt):Prop:=Q e fr S ds
theorem zHe(e:Exit):zQH ds Q e fr S=Q e fr S ds:=rfl
theorem zGd(b:Code):zTb P b Q .normal fr S ds=zBu P b fr S ds Q:=rfl
theorem zIl(b:Code)(j:Nat):zTb P b Q (.exit j) fr S ds=Q (.exit j) fr S ds:=rfl
theorem zKe(b:Code):zTb P b Q .ret fr S ds=Q .ret fr S ds:=rfl
theorem zEL(i:Nat):zQG i Q .normal fr S ds=Q .normal fr S ds:=rfl
theorem zGJ(i j:Nat):zQG i Q (.exit j) fr S ds=if j=i then Q .normal fr S ds else Q (.exit j) fr S ds:=rfl
theorem zHf(i:Nat):zQG i Q .ret fr S ds=Q .ret fr S ds:=rfl
theorem zIm:zBu P .skip fr S ds Q=Q .normal fr S ds:=by rw[zBu]
theorem zGe(id:Nat)(ops:Array Oper)(cb:Bool):zBu P (.region id ops cb) fr S ds Q=if(ops.toList.any zFE&& !cb)=true then zAl P ops ops.toList fr S ds (Q .normal)else awp P (.region id ops cb) fr S (zQH ds Q):=by rw[zBu]<;>rfl
theorem zKf(a b:Code):zBu P (.seq a b) fr S ds Q=zBu P a fr S ds (zTb P b Q):=by rw[zBu]<;>congr 1
theorem zIn(c:Operand)(t e:Code):zBu P (.cond c t e) fr S ds Q=(match evA fr c with| .p (.v (.bool b))=>if b=true then zBu P t fr S ds Q else zBu P e fr S ds Q|_=>False):=by rw[zBu]<;>rfl
theorem zHg(id:Nat)(c:Code):zBu P (.block id c) fr S ds Q=zBu P c fr S ds (zQG id Q):=by rw[zBu]<;>congr 1
theorem zIo(id:Nat):zBu P (.exit id) fr S ds Q=Q (.exit id) fr S ds:=by rw[zBu]
theorem zHh(l:Nat):zBu P (.label l) fr S ds Q=Q .normal fr S ds:=by rw[zBu]
theorem zKg:zBu P .ret fr S ds Q=Q .ret fr S ds:=by rw[zBu]
theorem zEM{ops:Array Oper}{K:List AV->ASt->List AV->Prop}:zAl P ops [] fr S ds K=K fr S ds:=by rw[zAl]
@[reducible] def CallDf (P : Program) (F : Nat) (args : List AV) (S : ASt) (K : AV -> ASt -> Prop) : Prop:=∃ r S',ADet P F args S r S' /\ K r S'
def zU9(P:Program)(ops:Array Oper)(os:List Oper)(fr:List AV)(dst:Option Nat)(ds:List AV)(K:List AV->ASt->List AV->Prop)(r:AV)(S:ASt):Prop:=zAl P ops os (putA fr dst r) S ds K
theorem zHi{ops:Array Oper}(os:List Oper)(dst:Option Nat){K:List AV->ASt->List AV->Prop}(r:AV):zU9 P ops os fr dst ds K r S=zAl P ops os (putA fr dst r) S ds K:=rfl
theorem zDo{ops:Array Oper}{K:List AV->ASt->List AV->Prop}(o:Oper)(os:List Oper):zAl P ops (o::os) fr S ds K=(match zBU ops o fr with
  |some true=>
   match zIk o fr with
   |some v=>zAl P ops os (putA fr o.dst .un) S (v::ds) K
   |none=>
    match zCd o fr with
    |some (F,args)=>CallDf P F args S (zU9 P ops os fr o.dst ds K)
    |none=>
     match zDM P o fr S with
     |some (v,S')=>zAl P ops os (putA fr o.dst v) S' ds K
     |none=>False
  |some false=>zAl P ops os (putA fr o.dst .un) S ds K
  |none=>False):=by rw[zAl]<;>rfl
theorem zFe{α:Type}{I:α->Prop}{F:α->List AV}{G:α->ASt}{D:α->List AV}{μ:α->Nat}{m:Nat}{n:α->Nat}{ia:List AV}{S':ASt}{yc:List AV}:zKd I F G D μ m n Q .normal ia S' yc=∃a',I a'/\μ a'<m/\wkR (AV.cuts (n a') ia) (F a')/\wkT (trim (n a') S') (G a')/\AV.cuts (n a') yc=D a':=rfl
theorem zHj{α:Type}{I:α->Prop}{F:α->List AV}{G:α->ASt}{D:α->List AV}{μ:α->Nat}{m:Nat}{n:α->Nat}{ia:List AV}{S':ASt}{yc:List AV}(j:Nat):zKd I F G D μ m n Q (.exit j) ia S' yc=Q (.exit j) ia S' yc:=rfl
theorem zIp{α:Type}{I:α->Prop}{F:α->List AV}{G:α->ASt}{D:α->List AV}{μ:α->Nat}{m:Nat}{n:α->Nat}{ia:List AV}{S':ASt}{yc:List AV}:zKd I F G D μ m n Q .ret ia S' yc=Q .ret ia S' yc:=rfl
theorem zHk{S':ASt}(e:Exit):zJX P S' e fr S ds=((e= .normal\/e= .ret)/\∃S2,DRun P ds S S2/\S2.tail=S'):=by rw[zJX]
end
theorem zEk{P:Program}{fr:List AV}{S:ASt}{ds:List AV}{Q:Exit->List AV->ASt->List AV->Prop}{body:Code}{α:Type}(I:α->Prop)(F:α->List AV)(G:α->ASt)(D:α->List AV)(μ:α->Nat)(n:α->Nat)(a0:α)(h0:I a0)(hn:∀a,I a->top (G a0)<=n a)(hF:wkR fr (F a0))(hG:wkT S (G a0))(hD:ds=D a0)(h:∀a,I a->zBu P body (F a) (G a) (D a) (zKd I F G D μ (μ a) n Q)):zBu P (.loop body) fr S ds Q:=⟨α,I,F,G,D,μ,a0,n,h0,hF,hG,hD,hn,h⟩
end Go.Proofs.YtgpajpilkapciaaGreatDoor
namespace Go.Proofs.YtgpajpilkapciaaGreatDoor
open Go.RowKit
variable{Pr:Prot}{w:World}{φ:Fi2}
mutual
def AV.fz(i:Nat)(cs:List AV):AV->AV
 | .ptr d j o=>if d=0/\j=i then .bx (cs.drop o)else .ptr d j o
 | .agg l=>.agg (AV.fzs i cs l)
 | .tup l=>.tup (AV.fzs i cs l)
 | .fn f la lb=>.fn f (AV.fzs i cs la) (AV.fzs i cs lb)
 | .any=>.any
 | .un=>.un
 | .bl=>.bl
 | .p q=>.p q
 | .mp d j=>.mp d j
 | .asl d j n k=>.asl d j n k
 | .rsl d j n k=>.rsl d j n k
 | .rptr d j n o=>.rptr d j n o
 | .rp l=>.rp l
 | .bx l=>.bx (AV.fzs i cs l)
 | .osl k rows d j=>.osl k rows d j
def AV.fzs(i:Nat)(cs:List AV):List AV->List AV
 | []=>[]
 |c::l=>c.fz i cs::AV.fzs i cs l
end
theorem zFF(i:Nat)(cs:List AV):∀(l:List AV) (j:Nat),(AV.fzs i cs l)[j]? =(l[j]?).map (AV.fz i cs)
 | [],j=>by simp[AV.fzs]
 |c::l,0=>by simp[AV.fzs]
 |c::l,j+1=>by simp[AV.fzs,zFF i cs l j]
theorem zJY(i:Nat)(cs:List AV)(l:List AV):(AV.fzs i cs l).length=l.length:=by
 induction l with
 |nil=>rfl
 |cons c l ih=>simp[AV.fzs,ih]
def Fzn(Pr:Prot)(φ:Fi2)(i:Nat)(cs:List AV):Prop:=∃(e:Ent) (g:Nat) (vs:Nat->Value),get2 φ 0 i=some e/\e.blk=some g/\(∀(j:Nat) (p:AV),cs[j]? =some p->Pr g j=some (vs j))/\∀(j:Nat) (p:AV),cs[j]? =some p->RA Pr φ p (vs j)
theorem RA.fz{i:Nat}{cs:List AV}(hz:Fzn Pr φ i cs){v:AV}{x:Value}(h:RA Pr φ v x):RA Pr φ (v.fz i cs) x:=by
 induction h with
 |any x=>exact .any x
 |un=>exact .un
 |bl b=>exact .bl b
 |p h=>exact .p h
 | @ptr d j o g e h1 h2 h3=>
  unfold AV.fz;split
  .rename_i hc
   obtain⟨rfl,rfl⟩:=hc
   obtain⟨e',g',vs,k1,k2,k3,k4⟩:=hz
   rw[h1]at k1;cases k1;rw[h3]at k2;cases k2;exact .bx (fun j=>vs (o+j)) (fun j p hp=>k3 _ _ (by rw[List.getElem?_drop]at hp;exact hp)) (fun j p hp=>k4 _ _ (by rw[List.getElem?_drop]at hp;exact hp))
  exact .ptr h1 h2 h3
 |mp h1 h2 h3=>exact .mp h1 h2 h3
 |asl h1 h2 h3 h4=>exact .asl h1 h2 h3 h4
 |rnil h1 h2 h3=>exact .rnil h1 h2 h3
 |rsl h1 h2 h3 h4 h5 h6 h7=>exact .rsl h1 h2 h3 h4 h5 h6 h7
 |rptr h1 h2 h3 h4=>exact .rptr h1 h2 h3 h4
 |rp vs h1 h2=>exact .rp vs h1 h2
 |bx vs h1 _ ih=>
  refine .bx vs (fun j c hc=>?_) (fun j c hc=>?_)
  .rw[zFF]at hc
   obtain⟨c',h,rfl⟩:=Option.map_eq_some_iff.1 hc
   exact h1 j c' h
  rw[zFF]at hc
  obtain⟨c',h,rfl⟩:=Option.map_eq_some_iff.1 hc
  exact ih j c' h
 |onil h1 h2 h3=>exact .onil h1 h2 h3
 |osl vs h1 h2 h3 h4 h5 h6 h7 h8 h9 h10=>exact .osl vs h1 h2 h3 h4 h5 h6 h7 h8 h9 h10
 |agg h1 _ ih=>
  refine .agg (by rw[zJY];exact h1) fun j c x hc hx=>?_
  rw[zFF]at hc
  obtain⟨c',h,rfl⟩:=Option.map_eq_some_iff.1 hc
  exact ih j c' x h hx
 |tup h1 _ ih=>
  refine .tup (by rw[zJY];exact h1) fun j c x hc hx=>?_
  rw[zFF]at hc
  obtain⟨c',h,rfl⟩:=Option.map_eq_some_iff.1 hc
  exact ih j c' x h hx
 |fn h1 h2 _ _ Ob Nb=>
  refine .fn (by rw[zJY];exact h1) (by rw[zJY];exact h2) (fun j c x hc hx=>?_) (fun j c x hc hx=>?_)
  .rw[zFF]at hc
   obtain⟨c',h,rfl⟩:=Option.map_eq_some_iff.1 hc
   exact Ob j c' x h hx
  rw[zFF]at hc
  obtain⟨c',h,rfl⟩:=Option.map_eq_some_iff.1 hc
  exact Nb j c' x h hx
theorem zYd{S:ASt}(h:Rel Pr φ S w){i:Nat}{cs:List AV}{t:TypeId}(ho:get2 S 0 i=some (.cells cs t)):∃Pr',Stp Pr φ w Pr' φ w/\Rel Pr' φ (set2 S 0 i .dead) w/\Fzn Pr' φ i cs:=by
 obtain⟨e,he,Oa,g,xs,hg,ma,hl,hc,Za⟩:=h.obj 0 i _ ho
 have ta:Pr.le (fun b o=>if b=g then xs[o]? else Pr b o):=fun b o v hv=>by
  by_cases hb:b=g
  .subst hb;rw[Za]at hv;cases hv
  simp only[hb,if_false];exact hv
 have qk:∀b,b≠g->∀o,Pr b o=none->(fun b o=>if b=g then xs[o]? else Pr b o) b o=none:=fun b hb o hv=>by simp only[hb,if_false];exact hv
 refine⟨fun b o=>if b=g then xs[o]? else Pr b o,⟨ta,Fle.refl φ,fun d i e g h k=>.inl ⟨d,i,e,h,k⟩,⟨rfl,rfl,rfl,Nat.le_refl _,fun _ _ _=>rfl⟩,rfl,fun b o h0 h1=>?_⟩,⟨fun d j o hj=>?_,h.dis,h.lt,fun b o v hv=>?_,?_,?_⟩,e,g,fun j=>xs.getD j undef,he,hg,fun j p hp=>?_,fun j p hp=>?_⟩
 .by_cases hb:b=g
  .subst hb;exact .inl ⟨0,i,e,he,hg⟩
  simp only[hb,if_false]at h1;exact absurd h0 h1
 .rw[zF _ ho]at hj
  split at hj
  .rename_i hc
   obtain⟨rfl,rfl⟩:=hc
   cases hj;exact⟨e,he,trivial⟩
  rename_i hne
  obtain⟨e',k1,k2⟩:=h.obj d j o hj
  refine⟨e',k1,k2.keep ta (Fle.refl _) fun g' Cb=>⟨rfl,fun o' wa=>qk g' (fun Ge=>hne ?_) o' wa⟩⟩
  subst Ge;exact h.dis d j e' 0 i e g' k1 he Cb hg
 .by_cases hb:b=g
  .subst hb
   simp only[if_true]at hv;rw[zBS ma];exact hv
  simp only[hb,if_false]at hv
  exact h.pr b o v hv
 .exact h.tb.of ta (fun _ _ _=>rfl) fun d i e g a b=>.inl ⟨d,i,e,a,b⟩
 .rw[zAH];exact h.shape
 .have hlt:j<xs.size:=by rw[<-hl];exact(List.getElem?_eq_some_iff.1 hp).1
  simp[Array.getD,hlt]
 have hlt:j<xs.size:=by rw[<-hl];exact(List.getElem?_eq_some_iff.1 hp).1
 have h2:=(hc j p xs[j] hp (Array.getElem?_eq_getElem hlt)).mono ta (Fle.refl φ)
 simpa [Array.getD,hlt]using h2
def FzOk(S:ASt):List (Nat × List AV × TypeId)->AV->Option AV
 | [],v=>some v
 |(i,cs,t)::l,v=>FzOk (set2 S 0 i .dead) l (v.fz i cs)
def zOI(S:ASt):List (Nat × List AV × TypeId)->Prop
 | []=>True
 |(i,cs,t)::l=>get2 S 0 i=some (.cells cs t)/\zOI (set2 S 0 i .dead) l
theorem zVA:∀(l:List (Nat × List AV × TypeId)) {Pr:Prot} {φ:Fi2} {S:ASt} {w:World} {v v':AV} {x:Value},Rel Pr φ S w->RA Pr φ v x->zOI S l->FzOk S l v=some v'->∃Pr' S',Stp Pr φ w Pr' φ w/\Rel Pr' φ S' w/\RA Pr' φ v' x/\S'.tail=S.tail
 | [],Pr,φ,S,w,v,v',x,hR,hx,_,h=>by cases h;exact⟨Pr,S,Stp.refl _ _ _,hR,hx,rfl⟩
 |(i,cs,t)::l,Pr,φ,S,w,v,v',x,hR,hx,⟨h1,h2⟩,h=>by
  obtain⟨rb,s1,r1,f1⟩:=zYd hR h1
  obtain⟨jc,S2,s2,r2,x2,t2⟩:=zVA l r1 ((hx.mono s1.pl s1.fl).fz f1) h2 h
  refine⟨jc,S2,s1.trans s2,r2,x2,t2.trans ?_⟩;unfold set2;cases S<;>rfl
def zWV(P:Program)(rs:List ResultVar)(l:List (Nat × List AV × TypeId))(r:AV)(S':ASt):Exit->List AV->ASt->Prop:=fun e fr S1=>
 (e= .normal\/e= .ret)/\∃vs,resA P fr S1 rs=some vs/\zOI S1 l/\((FzOk S1 l (retA vs)).bind (AV.down 1))=some r/\S1.tail=S'
theorem zTc(P:Program)(rs:List ResultVar)(l:List (Nat × List AV × TypeId))(r:AV)(e:Exit)(fr:List AV)(S S1:ASt):zWV P rs l r S e fr S1=((e= .normal\/e= .ret)/\∃vs,resA P fr S1 rs=some vs/\zOI S1 l/\((FzOk S1 l (retA vs)).bind (AV.down 1))=some r/\S1.tail=S):=by rw[zWV]
attribute [simp] zTc
theorem ADet.introFz{P:Program}{K:FuncId}{args:List AV}{S S':ASt}{r:AV}{fn:Func}{c:Code}(l:List (Nat × List AV × TypeId))(hm:P.follows .mixedOrders=true)(hK:∀xs w,(callFunc K xs).run P w= .ok (.enter K xs) w)(hf:P.funcs[K]? =some fn)(hb:fn.body=some c)
  (h:awp P c (AV.ups 1 args++List.replicate (fn.ntmps-args.length) .un) ([]::S) (zWV P fn.results.toList l r S')):ADet P K args S r S':=by
 refine⟨hK,fun Pr φ xs w ea hR hne=>?_⟩
 refine calls_of_wp hf hb ?_
 have eb:RF Pr ([]::φ) (AV.ups 1 args++List.replicate (fn.ntmps-args.length) .un) {tmps:=xs++Array.replicate (fn.ntmps-xs.size) undef,defers:=[]}:=by
  refine⟨by simp[zAW,ea.1],fun t v x hv hx=>?_⟩
  rcases Nat.lt_or_ge t args.length with ht|ht
  .rw[List.getElem?_append_left (by rw[zAW];exact ht),zB0]at hv
   obtain⟨v0,h0,rfl⟩:=Option.map_eq_some_iff.1 hv
   simp only at hx;rw[Array.getElem?_append_left (by rw[<-ea.1];exact ht)]at hx
   exact RA.up (k:=1) (ea.2 t v0 x h0 hx)
  rw[List.getElem?_append_right (by rw[zAW];exact ht)]at hv
  simp only at hx;rw[Array.getElem?_append_right (by rw[<-ea.1];exact ht)]at hx
  rw[List.getElem?_replicate]at hv;rw[Array.getElem?_replicate]at hx;split at hv
  .split at hx
   .cases hv;cases hx;exact .un
   cases hx
  cases hv
 refine wp_mono (zCx hm c _ Pr ([]::φ) _ _ ([]::S) w eb (zCa hR) (by simp) h) fun e a' w' hp=>?_
 obtain⟨ia,S1,Pr',φ',⟨he,vs,h1,h2,Bs,h3⟩,h4,h5,h6,h7⟩:=hp
 obtain⟨x,hx,ua⟩:=zCE (P:=P) (fn:=fn) h4 h5 h1
 obtain⟨v2,Cs,Rl⟩:=Option.bind_eq_some_iff.1 Bs
 obtain⟨jc,S2,s2,r2,x2,t2⟩:=zVA l h5 hx h2 Cs
 have Bq:=h6.trans s2
 have Wb:φ'≠ []:=zJ Bq (by simp)
 obtain⟨l',φ1,rfl⟩:=List.exists_cons_of_ne_nil Wb
 have lc:S2≠ []:=fun h0=>by have:=r2.shape;rw[h0]at this;simp at this
 obtain⟨L',S3,rfl⟩:=List.exists_cons_of_ne_nil lc
 rw[<-t2]at h3;simp only[List.tail_cons]at h3;subst h3
 have key:a'.defers=[]/\∃v,(results fn a'.tmps).run P w'= .ok v w'/\∃x Pr' φ',Ending.returned v= .returned x/\Stp Pr φ w Pr' φ' w'/\Rel Pr' φ' S3 w'/\RA Pr' φ' r x:=
  ⟨h7,x,ua,x,jc,φ1,rfl,zCw Bq,zB1 r2,x2.down r Rl⟩
 rcases he with rfl|rfl
 .exact key
 exact key
mutual
def AV.mrg(n:Nat):AV->AV
 | .ptr 0 i o=>.ptr 0 (n+i) o
 | .ptr 1 i o=>.ptr 0 i o
 | .ptr (d+2) i o=>.ptr (d+1) i o
 | .mp 0 i=>.mp 0 (n+i)
 | .mp 1 i=>.mp 0 i
 | .mp (d+2) i=>.mp (d+1) i
 | .asl 0 i m k=>.asl 0 (n+i) m k
 | .asl 1 i m k=>.asl 0 i m k
 | .asl (d+2) i m k=>.asl (d+1) i m k
 | .rsl 0 i m k=>.rsl 0 (n+i) m k
 | .rsl 1 i m k=>.rsl 0 i m k
 | .rsl (d+2) i m k=>.rsl (d+1) i m k
 | .rptr 0 i m o=>.rptr 0 (n+i) m o
 | .rptr 1 i m o=>.rptr 0 i m o
 | .rptr (d+2) i m o=>.rptr (d+1) i m o
 | .osl k rows 0 i=>.osl k rows 0 (n+i)
 | .osl k rows 1 i=>.osl k rows 0 i
 | .osl k rows (d+2) i=>.osl k rows (d+1) i
 | .agg cs=>.agg (AV.mrgs n cs)
 | .tup cs=>.tup (AV.mrgs n cs)
 | .fn f a b=>.fn f (AV.mrgs n a) (AV.mrgs n b)
 | .bx cs=>.bx (AV.mrgs n cs)
 | .any=>.any
 | .un=>.un
 | .bl=>.bl
 | .p q=>.p q
 | .rp cs=>.rp cs
def AV.mrgs(n:Nat):List AV->List AV
 | []=>[]
 |c::cs=>c.mrg n::AV.mrgs n cs
end
theorem zGz(n:Nat):∀cs:List AV,AV.mrgs n cs=cs.map (AV.mrg n)
 | []=>rfl
 |c::cs=>by simp[AV.mrgs,zGz n cs]
theorem zDG(n:Nat)(cs:List AV)(j:Nat):(AV.mrgs n cs)[j]? =(cs[j]?).map (AV.mrg n):=by rw[zGz,List.getElem?_map]
theorem zEl(n:Nat)(cs:List AV):(AV.mrgs n cs).length=cs.length:=by rw[zGz,List.length_map]
def mrgD:Nat->Nat
 |0=>0
 |d+1=>d
def mrgI(n:Nat):Nat->Nat->Nat
 |0,i=>n+i
 |_+1,i=>i
theorem zCb{α:Type}{l1 l:List α}{φ:List (List α)}{d i:Nat}{e:α}(h:get2 (l1::l::φ) d i=some e):get2 ((l++l1)::φ) (mrgD d) (mrgI l.length d i)=some e:=by
 match d,h with
 |0,h=>
  have h':l1[i]? =some e:=h
  show(l++l1)[l.length+i]? =some e
  rw[List.getElem?_append_right (by omega),Nat.add_sub_cancel_left];exact h'
 |1,h=>
  have h':l[i]? =some e:=h
  show(l++l1)[i]? =some e
  rw[List.getElem?_append_left (List.getElem?_eq_some_iff.1 h').1];exact h'
 |d+2,h=>exact h
theorem zCf{α:Type}{l1 l:List α}{φ:List (List α)}{d i:Nat}{e:α}(h:get2 ((l++l1)::φ) d i=some e):∃d' i',get2 (l1::l::φ) d' i'=some e/\mrgD d'=d/\mrgI l.length d' i'=i:=by
 match d,h with
 |0,h=>
  have h':(l++l1)[i]? =some e:=h
  rcases Nat.lt_or_ge i l.length with hi|hi
  .rw[List.getElem?_append_left hi]at h'
   exact⟨1,i,h',rfl,rfl⟩
  rw[List.getElem?_append_right hi]at h'
  exact⟨0,i-l.length,h',rfl,by show l.length+(i-l.length)=i;omega⟩
 |d+1,h=>exact⟨d+2,i,h,rfl,rfl⟩
theorem RA.mrg{l1 l:List Ent}{v:AV}{x:Value}(h:RA Pr (l1::l::φ) v x):RA Pr ((l++l1)::φ) (v.mrg l.length) x:=by
 induction h with
 |any x=>exact .any x
 |un=>exact .un
 |bl b=>exact .bl b
 |p h=>exact .p h
 | @ptr d i o g e h1 h2 h3=>
  have:=zCb h1
  match d,this with
  |0,this=>exact .ptr this h2 h3
  |1,this=>exact .ptr this h2 h3
  |d+2,this=>exact .ptr this h2 h3
 | @mp d i g e h1 h2 h3=>
  have:=zCb h1
  match d,this with
  |0,this=>exact .mp this h2 h3
  |1,this=>exact .mp this h2 h3
  |d+2,this=>exact .mp this h2 h3
 | @asl d i n k g e h1 h2 h3 h4=>
  have:=zCb h1
  match d,this with
  |0,this=>exact .asl this h2 h3 h4
  |1,this=>exact .asl this h2 h3 h4
  |d+2,this=>exact .asl this h2 h3 h4
 | @rnil d i e h1 h2 h3=>
  have:=zCb h1
  match d,this with
  |0,this=>exact .rnil this h2 h3
  |1,this=>exact .rnil this h2 h3
  |d+2,this=>exact .rnil this h2 h3
 | @rsl d i n g cap e h1 h2 h3 h4 h5 h6 h7=>
  have:=zCb h1
  match d,this with
  |0,this=>exact .rsl this h2 h3 h4 h5 h6 h7
  |1,this=>exact .rsl this h2 h3 h4 h5 h6 h7
  |d+2,this=>exact .rsl this h2 h3 h4 h5 h6 h7
 | @rptr d i n o g e h1 h2 h3 h4=>
  have:=zCb h1
  match d,this with
  |0,this=>exact .rptr this h2 h3 h4
  |1,this=>exact .rptr this h2 h3 h4
  |d+2,this=>exact .rptr this h2 h3 h4
 |rp vs h1 h2=>exact .rp vs h1 h2
 |bx vs h1 _ ih=>
  refine .bx vs (fun j c hc=>?_) (fun j c hc=>?_)
  .rw[zDG]at hc
   obtain⟨c',h,rfl⟩:=Option.map_eq_some_iff.1 hc
   exact h1 j c' h
  rw[zDG]at hc
  obtain⟨c',h,rfl⟩:=Option.map_eq_some_iff.1 hc
  exact ih j c' h
 | @onil d i e h1 h2 h3=>
  have:=zCb h1
  match d,this with
  |0,this=>exact .onil this h2 h3
  |1,this=>exact .onil this h2 h3
  |d+2,this=>exact .onil this h2 h3
 | @osl rows d i g cap e vs h1 h2 h3 h4 h5 h6 h7 h8 h9 h10=>
  have:=zCb h1
  match d,this with
  |0,this=>exact .osl vs this h2 h3 h4 h5 h6 h7 h8 h9 h10
  |1,this=>exact .osl vs this h2 h3 h4 h5 h6 h7 h8 h9 h10
  |d+2,this=>exact .osl vs this h2 h3 h4 h5 h6 h7 h8 h9 h10
 |agg h1 _ ih=>
  refine .agg (by rw[zEl];exact h1) fun j c x hc hx=>?_
  rw[zDG]at hc
  obtain⟨c',h,rfl⟩:=Option.map_eq_some_iff.1 hc
  exact ih j c' x h hx
 |tup h1 _ ih=>
  refine .tup (by rw[zEl];exact h1) fun j c x hc hx=>?_
  rw[zDG]at hc
  obtain⟨c',h,rfl⟩:=Option.map_eq_some_iff.1 hc
  exact ih j c' x h hx
 |fn h1 h2 _ _ Ob Nb=>
  refine .fn (by rw[zEl];exact h1) (by rw[zEl];exact h2) (fun j c x hc hx=>?_) (fun j c x hc hx=>?_)
  .rw[zDG]at hc
   obtain⟨c',h,rfl⟩:=Option.map_eq_some_iff.1 hc
   exact Ob j c' x h hx
  rw[zDG]at hc
  obtain⟨c',h,rfl⟩:=Option.map_eq_some_iff.1 hc
  exact Nb j c' x h hx
def AObj.mrg(n:Nat):AObj->AObj
 | .cells cs t=>.cells (AV.mrgs n cs) t
 | .tok e k m=>.tok e k m
 | .row e k m cs=>.row e k m (AV.mrgs n cs)
 | .map es=>.map (es.map fun kv=>(kv.1,kv.2.mrg n))
 | .dead=>.dead
 | .raw _ _ _ _=>.dead
theorem RelO.mrg{l1 l:List Ent}{o:AObj}{e:Ent}(h:RelO Pr (l1::l::φ) w o e):RelO Pr ((l++l1)::φ) w (o.mrg l.length) e:=by
 cases o with
 |dead=>trivial
 |raw=>trivial
 |tok=>exact h
 |cells cs t=>
  obtain⟨h0,g,xs,h1,h2,h3,h4,h5⟩:=h
  refine⟨h0,g,xs,h1,h2,by rw[zEl];exact h3,fun j c x a b=>?_,h5⟩
  rw[zDG]at a
  obtain⟨c',h,rfl⟩:=Option.map_eq_some_iff.1 a
  exact(h4 j c' x h b).mrg
 |row E k n cs=>
  obtain⟨h0,h1,h2,h3,h5,h4⟩:=h
  refine⟨h0,h1,h2,h3,by rw[zEl];exact h5,h4.imp id ?_⟩
  rintro⟨g,xs,a,b,c,d,e1,f,q,i⟩
  refine⟨g,xs,a,b,c,d,e1,f,fun j c x u v=>?_,i⟩
  rw[zDG]at u
  obtain⟨c',h,rfl⟩:=Option.map_eq_some_iff.1 u
  exact(q j c' x h v).mrg
 |map es=>
  obtain⟨h0,g,ents,ya,h1,h2,h3,h4,h5,h6⟩:=h
  refine⟨h0,g,ents,ya,h1,h2,by simpa using h3,fun j kv en a b=>?_,h5,h6⟩
  rw[List.getElem?_map]at a
  obtain⟨Tf,h,rfl⟩:=Option.map_eq_some_iff.1 a
  exact⟨(h4 j Tf en h b).1,(h4 j Tf en h b).2.mrg⟩
theorem zQI(l l1:List Ent)(φ:Fi2):Fle (l::φ) ((l++l1)::φ):=fun d i e h=>⟨e,by
 cases d with
 |zero=>
  have h':l[i]? =some e:=h
  show(l++l1)[i]? =some e
  rw[List.getElem?_append_left (List.getElem?_eq_some_iff.1 h').1];exact h'
 |succ d=>exact h,e.le_refl⟩
theorem zWW{l1 l:List Ent}{L1 L:List AObj}{R:ASt}(h:Rel Pr (l1::l::φ) (L1::L::R) w):Rel Pr ((l++l1)::φ) ((L++L1.map (AObj.mrg L.length))::R) w:=by
 have hs:=h.shape
 simp only[List.map_cons,List.cons.injEq]at hs
 obtain⟨te,hl,Ds⟩:=hs
 refine⟨fun d i o ho=>?_,fun d i e d' i' e' g a b c f=>?_,fun d i e g a b=>?_,h.pr,fun g cs hm=>?_,?_⟩
 .cases d with
  |succ d=>
   obtain⟨e,k1,k2⟩:=h.obj (d+2) i o ho
   exact⟨e,k1,k2⟩
  |zero=>
   have wa:(L++L1.map (AObj.mrg L.length))[i]? =some o:=ho
   rcases Nat.lt_or_ge i L.length with hi|hi
   .rw[List.getElem?_append_left hi]at wa
    obtain⟨e,k1,k2⟩:=h.obj 1 i o wa
    refine⟨e,zCb k1,RelO.keep (φ:=l::φ) k2 (Prot.le_refl _) (zQI l l1 φ) fun g _=>⟨rfl,fun _ h=>h⟩⟩
   rw[List.getElem?_append_right hi,List.getElem?_map]at wa
   obtain⟨o0,h0,rfl⟩:=Option.map_eq_some_iff.1 wa
   obtain⟨e,k1,k2⟩:=h.obj 0 (i-L.length) o0 h0
   refine⟨e,?_,?_⟩
   .have:=zCb k1
    rw[show mrgI l.length 0 (i-L.length)=i by show l.length+(i-L.length)=i;omega]at this
    exact this
   have k3:=RelO.mrg (l1:=l1) (l:=l) (φ:=φ) k2
   rw[hl]at k3;exact k3
 .obtain⟨d1,i1,a1,a2,a3⟩:=zCf a
  obtain⟨d2,i2,b1,b2,b3⟩:=zCf b
  obtain⟨rfl,rfl⟩:=h.dis _ _ _ _ _ _ g a1 b1 c f
  exact⟨a2.symm.trans b2,a3.symm.trans b3⟩
 .obtain⟨d1,i1,a1,a2,a3⟩:=zCf a
  exact h.lt _ _ _ g a1 b
 .obtain⟨t1,t2,t3,t4⟩:=h.tb g cs hm
  exact⟨t1,t2,t3,fun d i e a=>by
   obtain⟨d1,i1,a1,_,_⟩:=zCf a
   exact t4 _ _ _ a1⟩
 simp[hl,te,Ds]
def zQJ(P:Program)(rs:List ResultVar)(r:AV)(S':ASt):Exit->List AV->ASt->Prop:=fun e fr S1=>
 (e= .normal\/e= .ret)/\∃vs,resA P fr S1 rs=some vs/\∃L1 L R,S1=L1::L::R/\(retA vs).mrg L.length=r/\(L++L1.map (AObj.mrg L.length))::R=S'
theorem zBG(P:Program)(rs:List ResultVar)(r:AV)(e:Exit)(fr:List AV)(L1 L:List AObj)(R S':ASt):zQJ P rs r S' e fr (L1::L::R)=((e= .normal\/e= .ret)/\∃vs,resA P fr (L1::L::R) rs=some vs/\(retA vs).mrg L.length=r/\(L++L1.map (AObj.mrg L.length))::R=S'):=by
 unfold zQJ
 apply propext
 constructor
 .rintro⟨h,vs,h1,Es,L',R',h2,h3,h4⟩
  cases h2;exact⟨h,vs,h1,h3,h4⟩
 rintro⟨h,vs,h1,h3,h4⟩
 exact⟨h,vs,h1,_,_,_,rfl,h3,h4⟩
attribute [simp] zBG
theorem ADet.merge{P:Program}{K:FuncId}{args:List AV}{S S':ASt}{r:AV}{fn:Func}{c:Code}(hm:P.follows .mixedOrders=true)(hK:∀xs w,(callFunc K xs).run P w= .ok (.enter K xs) w)(hf:P.funcs[K]? =some fn)(hb:fn.body=some c)
  (h:awp P c (AV.ups 1 args++List.replicate (fn.ntmps-args.length) .un) ([]::S) (zQJ P fn.results.toList r S')):ADet P K args S r S':=by
 refine⟨hK,fun Pr φ xs w ea hR hne=>?_⟩
 refine calls_of_wp hf hb ?_
 have eb:RF Pr ([]::φ) (AV.ups 1 args++List.replicate (fn.ntmps-args.length) .un) {tmps:=xs++Array.replicate (fn.ntmps-xs.size) undef,defers:=[]}:=by
  refine⟨by simp[zAW,ea.1],fun t v x hv hx=>?_⟩
  rcases Nat.lt_or_ge t args.length with ht|ht
  .rw[List.getElem?_append_left (by rw[zAW];exact ht),zB0]at hv
   obtain⟨v0,h0,rfl⟩:=Option.map_eq_some_iff.1 hv
   simp only at hx;rw[Array.getElem?_append_left (by rw[<-ea.1];exact ht)]at hx
   exact RA.up (k:=1) (ea.2 t v0 x h0 hx)
  rw[List.getElem?_append_right (by rw[zAW];exact ht)]at hv
  simp only at hx;rw[Array.getElem?_append_right (by rw[<-ea.1];exact ht)]at hx
  rw[List.getElem?_replicate]at hv;rw[Array.getElem?_replicate]at hx;split at hv
  .split at hx
   .cases hv;cases hx;exact .un
   cases hx
  cases hv
 refine wp_mono (zCx hm c _ Pr ([]::φ) _ _ ([]::S) w eb (zCa hR) (by simp) h) fun e a' w' hp=>?_
 obtain⟨ia,S1,Pr',φ',⟨he,vs,h1,L1,L,R,rfl,h2,h3⟩,h4,h5,h6,h7⟩:=hp
 obtain⟨x,hx,ua⟩:=zCE (P:=P) (fn:=fn) h4 h5 h1
 have Wb:φ'≠ []:=zJ h6 (by simp)
 obtain⟨l1,φ0,rfl⟩:=List.exists_cons_of_ne_nil Wb
 have Ih:=zCw h6
 have ko:φ0≠ []:=fun h0=>by have:=h5.shape;rw[h0]at this;simp at this
 obtain⟨l,φ1,rfl⟩:=List.exists_cons_of_ne_nil ko
 have ca:l.length=L.length:=by have:=h5.shape;simp at this;exact this.2.1
 have hF:=zQI l l1 φ1
 have Fs:Stp Pr φ w Pr' ((l++l1)::φ1) w':=by
  refine⟨Ih.pl,Ih.fl.trans hF,fun d i e g a b=>?_,Ih.fr,?_,Ih.pn⟩
  .obtain⟨d1,i1,a1,_,_⟩:=zCf a
   rcases h6.fresh _ _ _ g a1 b with⟨d0,i0,e1,k1,k2⟩|k1
   .cases d0 with
    |zero=>simp[get2]at k1
    |succ d0=>exact .inl ⟨d0,i0,e1,k1,k2⟩
   exact .inr k1
  have:=Ih.len;simpa using this
 have Ce:=hx.mrg
 rw[ca,h2]at Ce
 have Cq:=zWW h5
 rw[h3]at Cq
 have key:a'.defers=[]/\∃v,(results fn a'.tmps).run P w'= .ok v w'/\∃x Pr' φ',Ending.returned v= .returned x/\Stp Pr φ w Pr' φ' w'/\Rel Pr' φ' S' w'/\RA Pr' φ' r x:=
  ⟨h7,x,ua,x,Pr',_,rfl,Fs,Cq,Ce⟩
 rcases he with rfl|rfl
 .exact key
 exact key
def rowC{α:Type}(enc:α->List PV)(l:List α):List AV:=(l.map fun x=>(enc x).map AV.p).flatten
theorem zVB{α:Type}{enc:α->List PV}{l:List α}:∀c∈rowC enc l,∃q,c= .p q:=fun c hc=>by
 obtain⟨cs,h1,h2⟩:=List.mem_flatten.1 hc
 obtain⟨x,_,rfl⟩:=List.mem_map.1 h1
 obtain⟨q,_,rfl⟩:=List.mem_map.1 h2
 exact⟨q,rfl⟩
theorem zM4{α:Type}(enc:α->List PV)(l:List α)(n:Nat):AV.cuts n (rowC enc l)=rowC enc l:=by
 rw[zFX]
 conv=>rhs;rw[<-List.map_id (rowC enc l)]
 exact List.map_congr_left fun c hc=>by obtain⟨q,rfl⟩:=zVB c hc;rfl
theorem zTd{α:Type}(enc:α->List PV)(l:List α)(n:Nat):AV.mrgs n (rowC enc l)=rowC enc l:=by
 rw[zGz]
 conv=>rhs;rw[<-List.map_id (rowC enc l)]
 exact List.map_congr_left fun c hc=>by obtain⟨q,rfl⟩:=zVB c hc;rfl
end Go.Proofs.YtgpajpilkapciaaGreatDoor
