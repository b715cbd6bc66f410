/- A part of the proof. -/
import Derived.Test.YtdflkegnmmkkoaaGreatDoorXMLt
import Derived.Defers
set_option linter.unusedVariables false
set_option linter.unusedSimpArgs false
set_option maxRecDepth 100000
set_option maxHeartbeats 32000000
namespace Go.Proofs.YtdflkegnmmkkoaaGreatDoor
open Go.RowKit
def zRh(P:Program)(K:FuncId)(args:List AV)(S S':ASt):Prop:=
 (∀xs w,(callFunc K xs).run P w= .ok (.enter K xs) w)/\∀Pr φ (xs:Array Value) w u,u≠ .run->RL Pr φ args xs->Rel Pr φ S w->φ≠ []->
  CallsD P K xs u w fun e u' w'=>u'=u/\∃x Pr' φ',e= .returned x/\Stp Pr φ w Pr' φ' w'/\Rel Pr' φ' S' w'
def RetD(S':ASt):Exit->List AV->ASt->Prop:=fun e fr S1=>(e= .normal\/e= .ret)/\S1.tail=S'
theorem zKJ(S':ASt)(e:Exit)(fr:List AV)(L:List AObj)(R:ASt):RetD S' e fr (L::R)=((e= .normal\/e= .ret)/\R=S'):=rfl
theorem zEl{P:Program}{fn:Func}(h:fn.results= #[])(tmps:Array Value)(w:World):(results fn tmps).run P w= .ok (.tuple #[]) w:=by
 rw[zJT,h];simp
section
variable{P:Program}
theorem zEF{Pr:Prot}{φ:Fi2}{args:List AV}{xs:Array Value}{n:Nat}(da:RL Pr φ args xs):RF Pr ([]::φ) (AV.ups 1 args++List.replicate (n-args.length) .un) {tmps:=xs++Array.replicate (n-xs.size) undef,defers:=[]}:=by
 refine⟨by simp[zA0,da.1],fun t v x hv hx=>?_⟩
 rcases Nat.lt_or_ge t args.length with ht|ht
 .rw[List.getElem?_append_left (by rw[zA0];exact ht),zCO]at hv
  obtain⟨v0,h0,rfl⟩:=Option.map_eq_some_iff.1 hv
  simp only at hx;rw[Array.getElem?_append_left (by rw[<-da.1];exact ht)]at hx
  exact RA.up (k:=1) (da.2 t v0 x h0 hx)
 rw[List.getElem?_append_right (by rw[zA0];exact ht)]at hv
 simp only at hx;rw[Array.getElem?_append_right (by rw[<-da.1];exact ht)]at hx
 rw[List.getElem?_replicate]at hv;rw[Array.getElem?_replicate]at hx;split at hv
 .split at hx
  .cases hv;cases hx;exact .un
  cases hx
 cases hv
theorem zRh.intro{K:FuncId}{args:List AV}{S S':ASt}{fn:Func}{c:Code}(hm:P.follows .mixedOrders=true)(hK:∀xs w,(callFunc K xs).run P w= .ok (.enter K xs) w)(hf:P.funcs[K]? =some fn)(hb:fn.body=some c)(ac:fn.results= #[])
  (h:awp P c (AV.ups 1 args++List.replicate (fn.ntmps-args.length) .un) ([]::S) (RetD S')):zRh P K args S S':=by
 refine⟨hK,fun Pr φ xs w u hu da hR hne=>?_⟩
 refine callsD_of_wp hf hb ?_;refine wp_mono (zDa hm c _ Pr ([]::φ) _ _ ([]::S) w (zEF da) (zC8 hR) (by simp) h) fun e a' w' hp=>?_
 obtain⟨ja,S1,Pr',φ',⟨he,h3⟩,h4,h5,h6,h7⟩:=hp
 have Vb:φ'≠ []:=zP h6 (by simp)
 obtain⟨l',φ1,rfl⟩:=List.exists_cons_of_ne_nil Vb
 have Ic:S1≠ []:=fun h0=>by have:=h5.shape;rw[h0]at this;simp at this
 obtain⟨L',S2,rfl⟩:=List.exists_cons_of_ne_nil Ic
 simp only[List.tail_cons]at h3;subst h3
 have key:a'.defers=[]/\∃v,(results fn a'.tmps).run P w'= .ok v w'/\∃x Pr' φ',Ending.returned v= .returned x/\Stp Pr φ w Pr' φ' w'/\Rel Pr' φ' S2 w':=
  ⟨h7,_,zEl ac _ _,_,Pr',φ1,rfl,zDk h6,zCP h5⟩
 rcases he with rfl|rfl
 .exact key
 exact key
def DR(Pr:Prot)(φ:Fi2):List AV->List Deferred->Prop
 | [],[]=>True
 |v::vs,d::ds=>(∃f la lb cap,v= .fn f la lb/\d.target= .fn f cap/\RA Pr φ (.fn f la lb) (.func f d.args cap))/\DR Pr φ vs ds
 |_,_=>False
theorem DR.mono{Pr Pr':Prot}{φ φ':Fi2}(hl:Pr.le Pr')(hf:Fle φ φ'):∀{vs:List AV} {ds:List Deferred},DR Pr φ vs ds->DR Pr' φ' vs ds
 | [],[],_=>trivial
 |v::vs,d::ds,⟨⟨f,la,lb,cap,h1,h2,h3⟩,h⟩=>⟨⟨f,la,lb,cap,h1,h2,h3.mono hl hf⟩,DR.mono hl hf h⟩
 | [],_::_,h=>h.elim
 |_::_,[],h=>h.elim
theorem DR.cut{Pr:Prot}{l:List Ent}{φ:Fi2}{n:Nat}:∀{vs:List AV} {ds:List Deferred},DR Pr (l::φ) vs ds->DR Pr (l.take n::φ) (AV.cuts n vs) ds
 | [],[],_=>trivial
 |v::vs,d::ds,⟨⟨f,la,lb,cap,h1,h2,h3⟩,h⟩=>⟨⟨f,AV.cuts n la,AV.cuts n lb,cap,by rw[h1];rfl,h2,by have:=h3.cut (n:=n);simpa [AV.cut]using this⟩,DR.cut h⟩
 | [],_::_,h=>h.elim
 |_::_,[],h=>h.elim
def DRun(P:Program):List AV->ASt->ASt->Prop
 | [],S,S'=>S=S'
 | .fn (.func K) la lb::vs,S,S'=>∃S1,zRh P K (la++lb) S S1/\DRun P vs S1 S'
 |_::_,_,_=>False
theorem zIB{fn:Func}(ac:fn.results= #[]){tmps:Array Value}{R:Ending->World->Prop}{Pr0:Prot}{φ0:Fi2}{w0:World}{S':ASt}(dj:∀Pr φ w,Stp Pr0 φ0 w0 Pr φ w->Rel Pr φ S' w->R (.returned (.tuple #[])) w):
  ∀(vs:List AV) (ds:List Deferred) (Pr:Prot) (φ:Fi2) (S:ASt) (w:World),DR Pr φ vs ds->Rel Pr φ S w->φ≠ []->Stp Pr0 φ0 w0 Pr φ w->DRun P vs S S'->Leaves P fn tmps R ds .returning w
 | [],[],Pr,φ,S,w,hd,hR,hne,hs,hk=>⟨_,zEl ac _ _,dj Pr φ w hs (by cases hk;exact hR)⟩
 | [],_::_,Pr,φ,S,w,hd,hR,hne,hs,hk=>hd.elim
 |_::_,[],Pr,φ,S,w,hd,hR,hne,hs,hk=>hd.elim
 |v::vs,d::ds,Pr,φ,S,w,⟨⟨f,la,lb,cap,h1,h2,h3⟩,hd⟩,hR,hne,hs,hk=>by
  subst h1
  cases f with
  |func K=>
   obtain⟨S1,⟨hK,hc⟩,hk⟩:=hk
   obtain⟨t,xs⟩:=d
   simp only at h2 h3;subst h2
   cases h3 with
   |fn l1 l2 c1 c2=>
    have da:RL Pr φ (la++lb) (xs++cap):=RL.append ⟨l1,c1⟩ ⟨l2,c2⟩
    refine leaves_cons (by simp) (f:=K) (args:=xs++cap) (by simp[invoke,hK]) ?_
    refine(hc Pr φ _ w .returning (by simp) da hR hne).mono fun e u' w' hp=>?_
    obtain⟨rfl,x,Pr',φ',rfl,s1,r1⟩:=hp
    exact zIB ac dj vs ds Pr' φ' S1 w' (hd.mono s1.pl s1.fl) r1 (zP s1 hne) (hs.trans s1) hk
  |_=>exact hk.elim
def zEV(Pr:Prot)(φ:Fi2)(w:World)(Q:Exit->List AV->ASt->List AV->Prop):Exit->Act->World->Prop:=fun e a' w'=>
 ∃ja S' Gc Pr' φ',Q e ja S' Gc/\RF Pr' φ' ja a'/\Rel Pr' φ' S' w'/\Stp Pr φ w Pr' φ' w'/\DR Pr' φ' Gc a'.defers
def zJX(o:Oper)(fr:List AV):Option AV:=
 match o.op with
 | .defer c=>
  match c.callee with
  | .value f=>
   match evA fr f with
   | .fn g fsts caps=>some (.fn g (fsts++c.args.toList.map (evA fr)) caps)
   |_=>none
  |_=>none
 |_=>none
def zAq(P:Program)(ops:Array Oper):List Oper->List AV->ASt->List AV->(List AV->ASt->List AV->Prop)->Prop
 | [],fr,S,ds,K=>K fr S ds
 |o::os,fr,S,ds,K=>
  match zBs ops o fr with
  |some true=>
   match zJX o fr with
   |some v=>zAq P ops os (putA fr o.dst .un) S (v::ds) K
   |none=>
    match zC0 o fr with
    |some (F,args)=>∃r S',ADet P F args S r S'/\zAq P ops os (putA fr o.dst r) S' ds K
    |none=>
     match zD8 P o fr S with
     |some (v,S')=>zAq P ops os (putA fr o.dst v) S' ds K
     |none=>False
  |some false=>zAq P ops os (putA fr o.dst .un) S ds K
  |none=>False
theorem zDH{ops:Array Oper}{K:List AV->ASt->List AV->Prop}{Q:Exit->List AV->ASt->List AV->Prop}(hQ:∀fr S ds,K fr S ds->Q .normal fr S ds){Pr0:Prot}{φ0:Fi2}{w0:World}:∀(os:List Oper) (i:Nat),ops.toList.drop i=os->∀(Pr:Prot) (φ:Fi2) (fr:List AV) (a:Act) (S:ASt) (ds:List AV) (w:World),RF Pr φ fr a->Rel Pr φ S w->φ≠ []->Stp Pr0 φ0 w0 Pr φ w->DR Pr φ ds a.defers->zAq P ops os fr S ds K->
  wpOps P ops (zEV Pr0 φ0 w0 Q) (List.range' i os.length) a w
 | [],i,hi,Pr,φ,fr,a,S,ds,w,h,hR,hne,Md,hd0,hk=>⟨fr,S,ds,Pr,φ,hQ _ _ _ hk,h,hR,Md,hd0⟩
 |o::os,i,hi,Pr,φ,fr,a,S,ds,w,h,hR,hne,Md,hd0,hk=>by
  have ho:ops[i]? =some o:=by
   have:(ops.toList.drop i)[0]? =some o:=by rw[hi];rfl
   rw[List.getElem?_drop]at this
   simpa using this
  have Pd:ops.toList.drop (i+1)=os:=by rw[<-List.drop_drop,hi];rfl
  simp only[List.length_cons,List.range'_succ];rw[wpOps_cons];unfold wpOp;rw[ho];simp only[zAq]at hk
  have step:∀{v:AV} {S':ASt},Stepped P o fr S v S'->zAq P ops os (putA fr o.dst v) S' ds K->Region.wanted o (yielded ops a.tmps)=true->o.wp P a w (wpOps P ops (zEV Pr0 φ0 w0 Q) (List.range' (i+1) os.length)) (zEV Pr0 φ0 w0 Q):=fun hs Ga hw=>
   zAp h hR hne hs fun x w' Pr' φ' s1 s2 s3=>zDH hQ os (i+1) Pd Pr' φ' _ _ _ ds w' ((h.mono s1.pl s1.fl).put o.dst s3) s2 (zP s1 hne) (Md.trans s1) (by rw[zAW];exact hd0.mono s1.pl s1.fl) Ga
  split at hk
  .rename_i hw
   simp only[zBT h hw,if_true];refine .inl ?_;split at hk
   .rename_i v hv
    unfold zJX at hv;split at hv
    .rename_i c hop
     split at hv
     .rename_i f po
      split at hv
      .rename_i g fsts caps he
       cases hv
       have jg:=h.ev f
       rw[he]at jg
       generalize hy:a.eval f=y at jg
       cases jg with
       | @fn _ _ _ xs ys l1 l2 c1 c2=>
        have ua:(execOp a.eval o).run P w= .ok (.defer {target:=.fn g ys,args:=xs++c.args.map a.eval}) w:=by
         simp[execOp,hop,resolve,po,hy,Deferred.ofValue]
        simp only[Oper.wp,ua,Oper.upon_defer]
        have hA:RL Pr φ (fsts++c.args.toList.map (evA fr)) (xs++c.args.map a.eval):=RL.append ⟨l1,c1⟩ ⟨by simp,fun j q x hq hx=>by
         rw[List.getElem?_map]at hq
         obtain⟨q0,h0,rfl⟩:=Option.map_eq_some_iff.1 hq
         have ga:c.args[j]? =some q0:=by simpa using h0
         rw[Array.getElem?_map,ga]at hx;cases hx;exact h.ev _⟩
        have Lh:RF Pr φ (putA fr o.dst .un) ({a with defers:={target:=.fn g ys,args:=xs++c.args.map a.eval}::a.defers}.put o.dst undef):=by
         have h1:RF Pr φ fr {a with defers:={target:=.fn g ys,args:=xs++c.args.map a.eval}::a.defers}:=⟨h.len,h.at_⟩
         exact h1.put o.dst .un
        refine zDH hQ os (i+1) Pd Pr φ _ _ S _ w Lh hR hne Md ?_ hk;rw[zAW];exact⟨⟨g,_,caps,ys,rfl,rfl,.fn hA.1 l2 hA.2 c2⟩,hd0⟩
      cases hv
     cases hv
    cases hv
   split at hk
   .rename_i F args hc
    obtain⟨r,S',h1,h2⟩:=hk
    exact step (zD9 hc h1) h2 (zBT h hw)
   split at hk
   .rename_i v S' hs
    exact step (zHT hs) hk (zBT h hw)
   exact hk.elim
  .rename_i hw
   simp only[zBT h hw,Bool.false_eq_true,if_false];exact zDH hQ os (i+1) Pd Pr φ _ _ S ds w (h.put o.dst (Pr:=Pr) (φ:=φ) (v:=.un) (x:=undef) .un) hR hne Md (by rw[zAW];exact hd0) hk
  exact hk.elim
def zFh(o:Oper):Bool:=match o.op with| .defer _=>true|_=>false
def zLS{α:Type}(I:α->Prop)(F:α->List AV)(G:α->ASt)(D:α->List AV)(μ:α->Nat)(m:Nat)(n:α->Nat)(Q:Exit->List AV->ASt->List AV->Prop):Exit->List AV->ASt->List AV->Prop:=fun e ja S' Gc=>
 match e with
 | .normal=>∃a',I a'/\μ a'<m/\wkR (AV.cuts (n a') ja) (F a')/\wkT (trim (n a') S') (G a')/\AV.cuts (n a') Gc=D a'
 |e=>Q e ja S' Gc
def zRi(body:List AV->ASt->List AV->(Exit->List AV->ASt->List AV->Prop)->Prop)(fr:List AV)(S:ASt)(ds:List AV)(Q:Exit->List AV->ASt->List AV->Prop):Prop:=
 ∃(α:Type) (I:α->Prop) (F:α->List AV) (G:α->ASt) (D:α->List AV) (μ:α->Nat) (a0:α) (n:α->Nat),I a0/\wkR fr (F a0)/\wkT S (G a0)/\ds=D a0/\(∀a,I a->top (G a0)<=n a)/\∀a,I a->body (F a) (G a) (D a) (zLS I F G D μ (μ a) n Q)
def zCB(P:Program):Code->List AV->ASt->List AV->(Exit->List AV->ASt->List AV->Prop)->Prop
 | .region id ops kb,fr,S,ds,Q=>if(ops.toList.any zFh&& !kb)=true then zAq P ops ops.toList fr S ds (Q .normal)else awp P (.region id ops kb) fr S fun e fr S=>Q e fr S ds
 | .seq a b,fr,S,ds,Q=>zCB P a fr S ds fun e fr S ds=>
  match e with
  | .normal=>zCB P b fr S ds Q
  |e=>Q e fr S ds
 | .cond c t e,fr,S,ds,Q=>
  match evA fr c with
  | .p (.v (.bool b))=>if b=true then zCB P t fr S ds Q else zCB P e fr S ds Q
  |_=>False
 | .block id body,fr,S,ds,Q=>zCB P body fr S ds fun e fr S ds=>
  match e with
  | .exit j=>if j=id then Q .normal fr S ds else Q (.exit j) fr S ds
  |e=>Q e fr S ds
 | .loop body,fr,S,ds,Q=>zRi (zCB P body) fr S ds Q
 | .exit id,fr,S,ds,Q=>Q (.exit id) fr S ds
 | .label _,fr,S,ds,Q=>Q .normal fr S ds
 | .ret,fr,S,ds,Q=>Q .ret fr S ds
 | .skip,fr,S,ds,Q=>Q .normal fr S ds
 |_,_,_,_,_=>False
theorem zEV.trans{Pr Ab:Prot}{φ φ1:Fi2}{w w1:World}{Q:Exit->List AV->ASt->List AV->Prop}(h:Stp Pr φ w Ab φ1 w1)(e:Exit)(a':Act)(w':World)(hp:zEV Ab φ1 w1 Q e a' w'):zEV Pr φ w Q e a' w':=by
 obtain⟨ja,S',Gc,Pr',φ',h1,h2,h3,h4,h5⟩:=hp
 exact⟨ja,S',Gc,Pr',φ',h1,h2,h3,h.trans h4,h5⟩
theorem zU2{c:Code}(hm:P.follows .mixedOrders=true){Q:Exit->List AV->ASt->List AV->Prop}{Pr:Prot}{φ:Fi2}{fr:List AV}{a:Act}{S:ASt}{ds:List AV}{w:World}(h:RF Pr φ fr a)(hR:Rel Pr φ S w)(hne:φ≠ [])(hd:DR Pr φ ds a.defers)(hk:awp P c fr S fun e fr S=>Q e fr S ds):c.wp P (zEV Pr φ w Q) a w:=
 wp_mono (zDa hm c _ Pr φ fr a S w h hR hne hk) fun e a' w' hp=>by
  obtain⟨ja,S',Pr',φ',h1,h2,h3,h4,h5⟩:=hp
  exact⟨ja,S',ds,Pr',φ',h1,h2,h3,h4,by rw[h5];exact hd.mono h4.pl h4.fl⟩
theorem zEG(hm:P.follows .mixedOrders=true):∀(c:Code) (Q:Exit->List AV->ASt->List AV->Prop) (Pr:Prot) (φ:Fi2) (fr:List AV) (a:Act) (S:ASt) (ds:List AV) (w:World),RF Pr φ fr a->Rel Pr φ S w->φ≠ []->DR Pr φ ds a.defers->zCB P c fr S ds Q->c.wp P (zEV Pr φ w Q) a w
 | .skip,Q,Pr,φ,fr,a,S,ds,w,h,hR,hne,hd,hk=>wp_skip ⟨fr,S,ds,Pr,φ,hk,h,hR,Stp.refl _ _ _,hd⟩
 | .label l,Q,Pr,φ,fr,a,S,ds,w,h,hR,hne,hd,hk=>wp_label ⟨fr,S,ds,Pr,φ,hk,h,hR,Stp.refl _ _ _,hd⟩
 | .exit id,Q,Pr,φ,fr,a,S,ds,w,h,hR,hne,hd,hk=>wp_exit ⟨fr,S,ds,Pr,φ,hk,h,hR,Stp.refl _ _ _,hd⟩
 | .ret,Q,Pr,φ,fr,a,S,ds,w,h,hR,hne,hd,hk=>wp_ret ⟨fr,S,ds,Pr,φ,hk,h,hR,Stp.refl _ _ _,hd⟩
 | .region id ops kb,Q,Pr,φ,fr,a,S,ds,w,h,hR,hne,hd,hk=>by
  simp only[zCB]at hk;split at hk
  .rename_i hc
   simp only[Bool.and_eq_true,Bool.not_eq_true']at hc;rw[hc.2];refine wp_region ?_
   have:=zDH (Q:=Q) (fun _ _ _ h=>h) ops.toList 0 rfl Pr φ fr a S ds w h hR hne (Stp.refl _ _ _) hd hk
   rwa [List.range_eq_range',<-Array.length_toList]
  exact zU2 hm h hR hne hd hk
 | .seq x y,Q,Pr,φ,fr,a,S,ds,w,h,hR,hne,hd,hk=>by
  refine wp_seq (wp_mono (zEG hm x _ Pr φ fr a S ds w h hR hne hd hk) fun e a' w' hp=>?_)
  obtain⟨ja,S',Gc,Pr',φ',h1,h2,h3,h4,h5⟩:=hp
  cases e with
  |normal=>exact wp_mono (zEG hm y Q Pr' φ' ja a' S' Gc w' h2 h3 (zP h4 hne) h5 h1) fun e Eh Fh hp=>zEV.trans h4 e Eh Fh hp
  |_=>exact⟨ja,S',Gc,Pr',φ',h1,h2,h3,h4,h5⟩
 | .cond c t e,Q,Pr,φ,fr,a,S,ds,w,h,hR,hne,hd,hk=>by
  simp only[zCB]at hk;split at hk
  .rename_i b hb
   have hc:=zS (h.ev c) (by rw[hb];rfl)
   refine wp_cond hc ?_
   cases b with
   |true=>exact zEG hm t Q Pr φ fr a S ds w h hR hne hd hk
   |false=>exact zEG hm e Q Pr φ fr a S ds w h hR hne hd hk
  exact hk.elim
 | .block id body,Q,Pr,φ,fr,a,S,ds,w,h,hR,hne,hd,hk=>by
  refine wp_block (wp_mono (zEG hm body _ Pr φ fr a S ds w h hR hne hd hk) fun e a' w' hp=>?_)
  obtain⟨ja,S',Gc,Pr',φ',h1,h2,h3,h4,h5⟩:=hp
  cases e with
  |exit j=>
   simp only[Exit.inBlock];simp only at h1;split
   .rename_i hj
    rw[if_pos hj]at h1;exact⟨ja,S',Gc,Pr',φ',h1,h2,h3,h4,h5⟩
   rename_i hj
   rw[if_neg hj]at h1
   exact⟨ja,S',Gc,Pr',φ',h1,h2,h3,h4,h5⟩
  |_=>exact⟨ja,S',Gc,Pr',φ',h1,h2,h3,h4,h5⟩
 | .loop body,Q,Pr,φ,fr,a,S,ds,w,h,hR,hne,hd,hk=>by
  obtain⟨α,I,F,G,D,μ,a0,n,hI,rb,Ig,qo,hn,hb⟩:=hk
  have Rb:RF Pr φ (F a0) a:=h.wk (zEa rb)
  have tf:Rel Pr φ (G a0) w:=zEZ hR (zEb Ig)
  have hn2:top φ=top (G a0):=zB1 tf.shape
  refine wp_loop_ghost (fun k a1 w1=>∃m Ab φ1,I m/\μ m=k/\RF Ab φ1 (F m) a1/\Rel Ab φ1 (G m) w1/\Stp Pr φ w Ab φ1 w1/\DR Ab φ1 (D m) a1.defers) (μ a0) ⟨a0,Pr,φ,hI,rfl,Rb,tf,Stp.refl _ _ _,by rw[<-qo];exact hd⟩ ?_
  rintro k a1 w1 ⟨m,Ab,φ1,Gh,rfl,hf,hr,hs,Cc⟩
  refine wp_mono (zEG hm body _ Ab φ1 (F m) a1 (G m) (D m) w1 hf hr (zP hs hne) Cc (hb m Gh)) fun e a2 w2 hp=>?_
  obtain⟨ja,S',Gc,qc,φ2,h1,h2,h3,h4,h5⟩:=hp
  cases e with
  |normal=>
   obtain⟨m',Ce,hlt,Hh,kg,ro⟩:=h1
   have Ra:=hs.trans h4
   have vc:φ2≠ []:=zP Ra hne
   obtain⟨l2,φr,rfl⟩:=List.exists_cons_of_ne_nil vc
   obtain⟨l0,φ0,rfl⟩:=List.exists_cons_of_ne_nil hne
   have uf:S'≠ []:=fun h0=>by have:=h3.shape;rw[h0]at this;simp at this
   obtain⟨L',SR,rfl⟩:=List.exists_cons_of_ne_nil uf
   have ud:l0.length<=n m':=Nat.le_trans (Nat.le_of_eq hn2) (hn m' Ce)
   have lf:RF qc (l2.take (n m')::φr) (AV.cuts (n m') ja) a2:=⟨by rw[zCM];exact h2.len,fun t c x hc hx=>by
    rw[zBx]at hc
    obtain⟨c0,h0,rfl⟩:=Option.map_eq_some_iff.1 hc
    exact(h2.at_ t c0 x h0 hx).cut⟩
   exact⟨μ m',hlt,m',qc,l2.take (n m')::φr,Ce,rfl,lf.wk (zEa Hh),zEZ (zD7 h3 (n m')) (zEb kg),zE7 Ra ud,by rw[<-ro];exact h5.cut⟩
  |_=>exact⟨ja,S',Gc,qc,φ2,h1,h2,h3,hs.trans h4,h5⟩
 | .scope _,Q,Pr,φ,fr,a,S,ds,w,h,hR,hne,hd,hk=>hk.elim
 | .rangeFunc _ _ _ _,Q,Pr,φ,fr,a,S,ds,w,h,hR,hne,hd,hk=>hk.elim
 | .goto _,Q,Pr,φ,fr,a,S,ds,w,h,hR,hne,hd,hk=>hk.elim
 | .refuse _,Q,Pr,φ,fr,a,S,ds,w,h,hR,hne,hd,hk=>hk.elim
def zKK(P:Program)(S':ASt):Exit->List AV->ASt->List AV->Prop:=fun e fr S1 ds=>(e= .normal\/e= .ret)/\∃S2,DRun P ds S1 S2/\S2.tail=S'
theorem ADet.introD{K:FuncId}{args:List AV}{S S':ASt}{fn:Func}{c:Code}(hm:P.follows .mixedOrders=true)(hK:∀xs w,(callFunc K xs).run P w= .ok (.enter K xs) w)(hf:P.funcs[K]? =some fn)(hb:fn.body=some c)(ac:fn.results= #[])
  (h:zCB P c (AV.ups 1 args++List.replicate (fn.ntmps-args.length) .un) ([]::S) [] (zKK P S')):ADet P K args S .un S':=by
 refine⟨hK,fun Pr φ xs w da hR hne=>?_⟩
 refine calls_of_wp_defers hf hb ?_;refine wp_mono (zEG hm c _ Pr ([]::φ) _ _ ([]::S) [] w (zEF da) (zC8 hR) (by simp) trivial h) fun e a' w' hp=>?_
 obtain⟨ja,S1,ds,Pr',φ',⟨he,S2,ua,h3⟩,h4,h5,h6,h7⟩:=hp
 have key:Leaves P fn a'.tmps (fun e w'=>∃x Pr' φ',e= .returned x/\Stp Pr φ w Pr' φ' w'/\Rel Pr' φ' S' w'/\RA Pr' φ' .un x) a'.defers .returning w':=by
  refine zIB (P:=P) ac (Pr0:=Pr) (φ0:=[]::φ) (w0:=w) (S':=S2) (fun qc φ2 w2 s2 r2=>?_) ds a'.defers Pr' φ' S1 w' h7 h5 (zP h6 (by simp)) h6 ua
  have Vb:φ2≠ []:=zP s2 (by simp)
  obtain⟨l',φ1,rfl⟩:=List.exists_cons_of_ne_nil Vb
  have Ic:S2≠ []:=fun h0=>by have:=r2.shape;rw[h0]at this;simp at this
  obtain⟨L',S3,rfl⟩:=List.exists_cons_of_ne_nil Ic
  simp only[List.tail_cons]at h3;subst h3;exact⟨_,qc,φ1,rfl,zDk s2,zCP r2,.un⟩
 rcases he with rfl|rfl
 .exact key
 exact key
end
section
variable{P:Program}{fr:List AV}{S:ASt}{ds:List AV}{Q:Exit->List AV->ASt->List AV->Prop}
def zU3(P:Program)(b:Code)(Q:Exit->List AV->ASt->List AV->Prop)(e:Exit)(fr:List AV)(S:ASt)(ds:List AV):Prop:=match e with| .normal=>zCB P b fr S ds Q|e=>Q e fr S ds
def zRj(id:Nat)(Q:Exit->List AV->ASt->List AV->Prop)(e:Exit)(fr:List AV)(S:ASt)(ds:List AV):Prop:=match e with| .exit j=>if j=id then Q .normal fr S ds else Q (.exit j) fr S ds|e=>Q e fr S ds
def zRk(ds:List AV)(Q:Exit->List AV->ASt->List AV->Prop)(e:Exit)(fr:List AV)(S:ASt):Prop:=Q e fr S ds
theorem zIC(e:Exit):zRk ds Q e fr S=Q e fr S ds:=rfl
theorem zG7(b:Code):zU3 P b Q .normal fr S ds=zCB P b fr S ds Q:=rfl
theorem zJY(b:Code)(j:Nat):zU3 P b Q (.exit j) fr S ds=Q (.exit j) fr S ds:=rfl
theorem zLT(b:Code):zU3 P b Q .ret fr S ds=Q .ret fr S ds:=rfl
theorem zEm(i:Nat):zRj i Q .normal fr S ds=Q .normal fr S ds:=rfl
theorem zGk(i j:Nat):zRj i Q (.exit j) fr S ds=if j=i then Q .normal fr S ds else Q (.exit j) fr S ds:=rfl
theorem zID(i:Nat):zRj i Q .ret fr S ds=Q .ret fr S ds:=rfl
theorem zJZ:zCB P .skip fr S ds Q=Q .normal fr S ds:=by rw[zCB]
theorem zG8(id:Nat)(ops:Array Oper)(kb:Bool):zCB P (.region id ops kb) fr S ds Q=if(ops.toList.any zFh&& !kb)=true then zAq P ops ops.toList fr S ds (Q .normal)else awp P (.region id ops kb) fr S (zRk ds Q):=by rw[zCB]<;>rfl
theorem zLU(a b:Code):zCB P (.seq a b) fr S ds Q=zCB P a fr S ds (zU3 P b Q):=by rw[zCB]<;>congr 1
theorem zJa(c:Operand)(t e:Code):zCB P (.cond c t e) fr S ds Q=(match evA fr c with| .p (.v (.bool b))=>if b=true then zCB P t fr S ds Q else zCB P e fr S ds Q|_=>False):=by rw[zCB]<;>rfl
theorem zIE(id:Nat)(c:Code):zCB P (.block id c) fr S ds Q=zCB P c fr S ds (zRj id Q):=by rw[zCB]<;>congr 1
theorem zJb(id:Nat):zCB P (.exit id) fr S ds Q=Q (.exit id) fr S ds:=by rw[zCB]
theorem zIF(l:Nat):zCB P (.label l) fr S ds Q=Q .normal fr S ds:=by rw[zCB]
theorem zLV:zCB P .ret fr S ds Q=Q .ret fr S ds:=by rw[zCB]
theorem zEn{ops:Array Oper}{K:List AV->ASt->List AV->Prop}:zAq P ops [] fr S ds K=K fr S ds:=by rw[zAq]
@[reducible] def CallDf (P : Program) (F : Nat) (args : List AV) (S : ASt) (K : AV -> ASt -> Prop) : Prop:=∃ r S',ADet P F args S r S' /\ K r S'
def zWn(P:Program)(ops:Array Oper)(os:List Oper)(fr:List AV)(dst:Option Nat)(ds:List AV)(K:List AV->ASt->List AV->Prop)(r:AV)(S:ASt):Prop:=zAq P ops os (putA fr dst r) S ds K
theorem zIG{ops:Array Oper}(os:List Oper)(dst:Option Nat){K:List AV->ASt->List AV->Prop}(r:AV):zWn P ops os fr dst ds K r S=zAq P ops os (putA fr dst r) S ds K:=rfl
theorem zEH{ops:Array Oper}{K:List AV->ASt->List AV->Prop}(o:Oper)(os:List Oper):zAq P ops (o::os) fr S ds K=(match zBs ops o fr with
  |some true=>
   match zJX o fr with
   |some v=>zAq P ops os (putA fr o.dst .un) S (v::ds) K
   |none=>
    match zC0 o fr with
    |some (F,args)=>CallDf P F args S (zWn P ops os fr o.dst ds K)
    |none=>
     match zD8 P o fr S with
     |some (v,S')=>zAq P ops os (putA fr o.dst v) S' ds K
     |none=>False
  |some false=>zAq P ops os (putA fr o.dst .un) S ds K
  |none=>False):=by rw[zAq]<;>rfl
theorem zF9{α:Type}{I:α->Prop}{F:α->List AV}{G:α->ASt}{D:α->List AV}{μ:α->Nat}{m:Nat}{n:α->Nat}{ja:List AV}{S':ASt}{Gc:List AV}:zLS I F G D μ m n Q .normal ja S' Gc=∃a',I a'/\μ a'<m/\wkR (AV.cuts (n a') ja) (F a')/\wkT (trim (n a') S') (G a')/\AV.cuts (n a') Gc=D a':=rfl
theorem zIH{α:Type}{I:α->Prop}{F:α->List AV}{G:α->ASt}{D:α->List AV}{μ:α->Nat}{m:Nat}{n:α->Nat}{ja:List AV}{S':ASt}{Gc:List AV}(j:Nat):zLS I F G D μ m n Q (.exit j) ja S' Gc=Q (.exit j) ja S' Gc:=rfl
theorem zJc{α:Type}{I:α->Prop}{F:α->List AV}{G:α->ASt}{D:α->List AV}{μ:α->Nat}{m:Nat}{n:α->Nat}{ja:List AV}{S':ASt}{Gc:List AV}:zLS I F G D μ m n Q .ret ja S' Gc=Q .ret ja S' Gc:=rfl
theorem zII{S':ASt}(e:Exit):zKK P S' e fr S ds=((e= .normal\/e= .ret)/\∃S2,DRun P ds S S2/\S2.tail=S'):=by rw[zKK]
end
theorem zFE{P:Program}{fr:List AV}{S:ASt}{ds:List AV}{Q:Exit->List AV->ASt->List AV->Prop}{body:Code}{α:Type}(I:α->Prop)(F:α->List AV)(G:α->ASt)(D:α->List AV)(μ:α->Nat)(n:α->Nat)(a0:α)(h0:I a0)(hn:∀a,I a->top (G a0)<=n a)(hF:wkR fr (F a0))(hG:wkT S (G a0))(hD:ds=D a0)(h:∀a,I a->zCB P body (F a) (G a) (D a) (zLS I F G D μ (μ a) n Q)):zCB P (.loop body) fr S ds Q:=⟨α,I,F,G,D,μ,a0,n,h0,hF,hG,hD,hn,h⟩
end Go.Proofs.YtdflkegnmmkkoaaGreatDoor
namespace Go.Proofs.YtdflkegnmmkkoaaGreatDoor
open Go.RowKit
variable{Pr:Prot}{w:World}{φ:Fi2}
mutual
def AV.fz(i:Nat)(cs:List AV):AV->AV
 | .ptr d j o=>if d=0/\j=i then .bx (cs.drop o)else .ptr d j o
 | .agg l=>.agg (AV.fzs i cs l)
 | .tup l=>.tup (AV.fzs i cs l)
 | .fn f la lb=>.fn f (AV.fzs i cs la) (AV.fzs i cs lb)
 | .any=>.any
 | .un=>.un
 | .bl=>.bl
 | .p q=>.p q
 | .mp d j=>.mp d j
 | .asl d j n k=>.asl d j n k
 | .rsl d j n k=>.rsl d j n k
 | .rptr d j n o=>.rptr d j n o
 | .rp l=>.rp l
 | .bx l=>.bx (AV.fzs i cs l)
 | .osl k rows d j=>.osl k rows d j
def AV.fzs(i:Nat)(cs:List AV):List AV->List AV
 | []=>[]
 |c::l=>c.fz i cs::AV.fzs i cs l
end
theorem zFi(i:Nat)(cs:List AV):∀(l:List AV) (j:Nat),(AV.fzs i cs l)[j]? =(l[j]?).map (AV.fz i cs)
 | [],j=>by simp[AV.fzs]
 |c::l,0=>by simp[AV.fzs]
 |c::l,j+1=>by simp[AV.fzs,zFi i cs l j]
theorem zKL(i:Nat)(cs:List AV)(l:List AV):(AV.fzs i cs l).length=l.length:=by
 induction l with
 |nil=>rfl
 |cons c l ih=>simp[AV.fzs,ih]
def Fzn(Pr:Prot)(φ:Fi2)(i:Nat)(cs:List AV):Prop:=∃(e:Ent) (g:Nat) (vs:Nat->Value),get2 φ 0 i=some e/\e.blk=some g/\(∀(j:Nat) (p:AV),cs[j]? =some p->Pr g j=some (vs j))/\∀(j:Nat) (p:AV),cs[j]? =some p->RA Pr φ p (vs j)
theorem RA.fz{i:Nat}{cs:List AV}(hz:Fzn Pr φ i cs){v:AV}{x:Value}(h:RA Pr φ v x):RA Pr φ (v.fz i cs) x:=by
 induction h with
 |any x=>exact .any x
 |un=>exact .un
 |bl b=>exact .bl b
 |p h=>exact .p h
 | @ptr d j o g e h1 h2 h3=>
  unfold AV.fz;split
  .rename_i hc
   obtain⟨rfl,rfl⟩:=hc
   obtain⟨e',g',vs,k1,k2,k3,k4⟩:=hz
   rw[h1]at k1;cases k1;rw[h3]at k2;cases k2;exact .bx (fun j=>vs (o+j)) (fun j p hp=>k3 _ _ (by rw[List.getElem?_drop]at hp;exact hp)) (fun j p hp=>k4 _ _ (by rw[List.getElem?_drop]at hp;exact hp))
  exact .ptr h1 h2 h3
 |mp h1 h2 h3=>exact .mp h1 h2 h3
 |asl h1 h2 h3 h4=>exact .asl h1 h2 h3 h4
 |rnil h1 h2 h3=>exact .rnil h1 h2 h3
 |rsl h1 h2 h3 h4 h5 h6 h7=>exact .rsl h1 h2 h3 h4 h5 h6 h7
 |rptr h1 h2 h3 h4=>exact .rptr h1 h2 h3 h4
 |rp vs h1 h2=>exact .rp vs h1 h2
 |bx vs h1 _ ih=>
  refine .bx vs (fun j c hc=>?_) (fun j c hc=>?_)
  .rw[zFi]at hc
   obtain⟨c',h,rfl⟩:=Option.map_eq_some_iff.1 hc
   exact h1 j c' h
  rw[zFi]at hc
  obtain⟨c',h,rfl⟩:=Option.map_eq_some_iff.1 hc
  exact ih j c' h
 |onil h1 h2 h3=>exact .onil h1 h2 h3
 |osl vs h1 h2 h3 h4 h5 h6 h7 h8 h9 h10=>exact .osl vs h1 h2 h3 h4 h5 h6 h7 h8 h9 h10
 |agg h1 _ ih=>
  refine .agg (by rw[zKL];exact h1) fun j c x hc hx=>?_
  rw[zFi]at hc
  obtain⟨c',h,rfl⟩:=Option.map_eq_some_iff.1 hc
  exact ih j c' x h hx
 |tup h1 _ ih=>
  refine .tup (by rw[zKL];exact h1) fun j c x hc hx=>?_
  rw[zFi]at hc
  obtain⟨c',h,rfl⟩:=Option.map_eq_some_iff.1 hc
  exact ih j c' x h hx
 |fn h1 h2 _ _ Sb Lb=>
  refine .fn (by rw[zKL];exact h1) (by rw[zKL];exact h2) (fun j c x hc hx=>?_) (fun j c x hc hx=>?_)
  .rw[zFi]at hc
   obtain⟨c',h,rfl⟩:=Option.map_eq_some_iff.1 hc
   exact Sb j c' x h hx
  rw[zFi]at hc
  obtain⟨c',h,rfl⟩:=Option.map_eq_some_iff.1 hc
  exact Lb j c' x h hx
theorem zaW{S:ASt}(h:Rel Pr φ S w){i:Nat}{cs:List AV}{t:TypeId}(ho:get2 S 0 i=some (.cells cs t)):∃Pr',Stp Pr φ w Pr' φ w/\Rel Pr' φ (set2 S 0 i .dead) w/\Fzn Pr' φ i cs:=by
 obtain⟨e,he,Ya,g,xs,hg,ma,hl,hc,pb⟩:=h.obj 0 i _ ho
 have ta:Pr.le (fun b o=>if b=g then xs[o]? else Pr b o):=fun b o v hv=>by
  by_cases hb:b=g
  .subst hb;rw[pb]at hv;cases hv
  simp only[hb,if_false];exact hv
 have so:∀b,b≠g->∀o,Pr b o=none->(fun b o=>if b=g then xs[o]? else Pr b o) b o=none:=fun b hb o hv=>by simp only[hb,if_false];exact hv
 refine⟨fun b o=>if b=g then xs[o]? else Pr b o,⟨ta,Fle.refl φ,fun d i e g h k=>.inl ⟨d,i,e,h,k⟩,⟨rfl,rfl,rfl,Nat.le_refl _,fun _ _ _=>rfl⟩,rfl,fun b o h0 h1=>?_⟩,⟨fun d j o hj=>?_,h.dis,h.lt,fun b o v hv=>?_,?_,?_⟩,e,g,fun j=>xs.getD j undef,he,hg,fun j p hp=>?_,fun j p hp=>?_⟩
 .by_cases hb:b=g
  .subst hb;exact .inl ⟨0,i,e,he,hg⟩
  simp only[hb,if_false]at h1;exact absurd h0 h1
 .rw[zQ _ ho]at hj
  split at hj
  .rename_i hc
   obtain⟨rfl,rfl⟩:=hc
   cases hj;exact⟨e,he,trivial⟩
  rename_i hne
  obtain⟨e',k1,k2⟩:=h.obj d j o hj
  refine⟨e',k1,k2.keep ta (Fle.refl _) fun g' Hb=>⟨rfl,fun o' Ba=>so g' (fun Zf=>hne ?_) o' Ba⟩⟩
  subst Zf;exact h.dis d j e' 0 i e g' k1 he Hb hg
 .by_cases hb:b=g
  .subst hb
   simp only[if_true]at hv;rw[zBw ma];exact hv
  simp only[hb,if_false]at hv
  exact h.pr b o v hv
 .exact h.tb.of ta (fun _ _ _=>rfl) fun d i e g a b=>.inl ⟨d,i,e,a,b⟩
 .rw[zBr];exact h.shape
 .have hlt:j<xs.size:=by rw[<-hl];exact(List.getElem?_eq_some_iff.1 hp).1
  simp[Array.getD,hlt]
 have hlt:j<xs.size:=by rw[<-hl];exact(List.getElem?_eq_some_iff.1 hp).1
 have h2:=(hc j p xs[j] hp (Array.getElem?_eq_getElem hlt)).mono ta (Fle.refl φ)
 simpa [Array.getD,hlt]using h2
def FzOk(S:ASt):List (Nat × List AV × TypeId)->AV->Option AV
 | [],v=>some v
 |(i,cs,t)::l,v=>FzOk (set2 S 0 i .dead) l (v.fz i cs)
def zO8(S:ASt):List (Nat × List AV × TypeId)->Prop
 | []=>True
 |(i,cs,t)::l=>get2 S 0 i=some (.cells cs t)/\zO8 (set2 S 0 i .dead) l
theorem zWo:∀(l:List (Nat × List AV × TypeId)) {Pr:Prot} {φ:Fi2} {S:ASt} {w:World} {v v':AV} {x:Value},Rel Pr φ S w->RA Pr φ v x->zO8 S l->FzOk S l v=some v'->∃Pr' S',Stp Pr φ w Pr' φ w/\Rel Pr' φ S' w/\RA Pr' φ v' x/\S'.tail=S.tail
 | [],Pr,φ,S,w,v,v',x,hR,hx,_,h=>by cases h;exact⟨Pr,S,Stp.refl _ _ _,hR,hx,rfl⟩
 |(i,cs,t)::l,Pr,φ,S,w,v,v',x,hR,hx,⟨h1,h2⟩,h=>by
  obtain⟨Ab,s1,r1,f1⟩:=zaW hR h1
  obtain⟨qc,S2,s2,r2,x2,t2⟩:=zWo l r1 ((hx.mono s1.pl s1.fl).fz f1) h2 h
  refine⟨qc,S2,s1.trans s2,r2,x2,t2.trans ?_⟩;unfold set2;cases S<;>rfl
def zYE(P:Program)(rs:List ResultVar)(l:List (Nat × List AV × TypeId))(r:AV)(S':ASt):Exit->List AV->ASt->Prop:=fun e fr S1=>
 (e= .normal\/e= .ret)/\∃vs,resA P fr S1 rs=some vs/\zO8 S1 l/\((FzOk S1 l (retA vs)).bind (AV.down 1))=some r/\S1.tail=S'
theorem zU4(P:Program)(rs:List ResultVar)(l:List (Nat × List AV × TypeId))(r:AV)(e:Exit)(fr:List AV)(S S1:ASt):zYE P rs l r S e fr S1=((e= .normal\/e= .ret)/\∃vs,resA P fr S1 rs=some vs/\zO8 S1 l/\((FzOk S1 l (retA vs)).bind (AV.down 1))=some r/\S1.tail=S):=by rw[zYE]
attribute [simp] zU4
theorem ADet.introFz{P:Program}{K:FuncId}{args:List AV}{S S':ASt}{r:AV}{fn:Func}{c:Code}(l:List (Nat × List AV × TypeId))(hm:P.follows .mixedOrders=true)(hK:∀xs w,(callFunc K xs).run P w= .ok (.enter K xs) w)(hf:P.funcs[K]? =some fn)(hb:fn.body=some c)
  (h:awp P c (AV.ups 1 args++List.replicate (fn.ntmps-args.length) .un) ([]::S) (zYE P fn.results.toList l r S')):ADet P K args S r S':=by
 refine⟨hK,fun Pr φ xs w da hR hne=>?_⟩
 refine calls_of_wp hf hb ?_
 have ub:RF Pr ([]::φ) (AV.ups 1 args++List.replicate (fn.ntmps-args.length) .un) {tmps:=xs++Array.replicate (fn.ntmps-xs.size) undef,defers:=[]}:=by
  refine⟨by simp[zA0,da.1],fun t v x hv hx=>?_⟩
  rcases Nat.lt_or_ge t args.length with ht|ht
  .rw[List.getElem?_append_left (by rw[zA0];exact ht),zCO]at hv
   obtain⟨v0,h0,rfl⟩:=Option.map_eq_some_iff.1 hv
   simp only at hx;rw[Array.getElem?_append_left (by rw[<-da.1];exact ht)]at hx
   exact RA.up (k:=1) (da.2 t v0 x h0 hx)
  rw[List.getElem?_append_right (by rw[zA0];exact ht)]at hv
  simp only at hx;rw[Array.getElem?_append_right (by rw[<-da.1];exact ht)]at hx
  rw[List.getElem?_replicate]at hv;rw[Array.getElem?_replicate]at hx;split at hv
  .split at hx
   .cases hv;cases hx;exact .un
   cases hx
  cases hv
 refine wp_mono (zDa hm c _ Pr ([]::φ) _ _ ([]::S) w ub (zC8 hR) (by simp) h) fun e a' w' hp=>?_
 obtain⟨ja,S1,Pr',φ',⟨he,vs,h1,h2,As,h3⟩,h4,h5,h6,h7⟩:=hp
 obtain⟨x,hx,ua⟩:=zCp (P:=P) (fn:=fn) h4 h5 h1
 obtain⟨v2,Bs,Xl⟩:=Option.bind_eq_some_iff.1 As
 obtain⟨qc,S2,s2,r2,x2,t2⟩:=zWo l h5 hx h2 Bs
 have Pq:=h6.trans s2
 have Vb:φ'≠ []:=zP Pq (by simp)
 obtain⟨l',φ1,rfl⟩:=List.exists_cons_of_ne_nil Vb
 have Ic:S2≠ []:=fun h0=>by have:=r2.shape;rw[h0]at this;simp at this
 obtain⟨L',S3,rfl⟩:=List.exists_cons_of_ne_nil Ic
 rw[<-t2]at h3;simp only[List.tail_cons]at h3;subst h3
 have key:a'.defers=[]/\∃v,(results fn a'.tmps).run P w'= .ok v w'/\∃x Pr' φ',Ending.returned v= .returned x/\Stp Pr φ w Pr' φ' w'/\Rel Pr' φ' S3 w'/\RA Pr' φ' r x:=
  ⟨h7,x,ua,x,qc,φ1,rfl,zDk Pq,zCP r2,x2.down r Xl⟩
 rcases he with rfl|rfl
 .exact key
 exact key
mutual
def AV.mrg(n:Nat):AV->AV
 | .ptr 0 i o=>.ptr 0 (n+i) o
 | .ptr 1 i o=>.ptr 0 i o
 | .ptr (d+2) i o=>.ptr (d+1) i o
 | .mp 0 i=>.mp 0 (n+i)
 | .mp 1 i=>.mp 0 i
 | .mp (d+2) i=>.mp (d+1) i
 | .asl 0 i m k=>.asl 0 (n+i) m k
 | .asl 1 i m k=>.asl 0 i m k
 | .asl (d+2) i m k=>.asl (d+1) i m k
 | .rsl 0 i m k=>.rsl 0 (n+i) m k
 | .rsl 1 i m k=>.rsl 0 i m k
 | .rsl (d+2) i m k=>.rsl (d+1) i m k
 | .rptr 0 i m o=>.rptr 0 (n+i) m o
 | .rptr 1 i m o=>.rptr 0 i m o
 | .rptr (d+2) i m o=>.rptr (d+1) i m o
 | .osl k rows 0 i=>.osl k rows 0 (n+i)
 | .osl k rows 1 i=>.osl k rows 0 i
 | .osl k rows (d+2) i=>.osl k rows (d+1) i
 | .agg cs=>.agg (AV.mrgs n cs)
 | .tup cs=>.tup (AV.mrgs n cs)
 | .fn f a b=>.fn f (AV.mrgs n a) (AV.mrgs n b)
 | .bx cs=>.bx (AV.mrgs n cs)
 | .any=>.any
 | .un=>.un
 | .bl=>.bl
 | .p q=>.p q
 | .rp cs=>.rp cs
def AV.mrgs(n:Nat):List AV->List AV
 | []=>[]
 |c::cs=>c.mrg n::AV.mrgs n cs
end
theorem zHX(n:Nat):∀cs:List AV,AV.mrgs n cs=cs.map (AV.mrg n)
 | []=>rfl
 |c::cs=>by simp[AV.mrgs,zHX n cs]
theorem zDc(n:Nat)(cs:List AV)(j:Nat):(AV.mrgs n cs)[j]? =(cs[j]?).map (AV.mrg n):=by rw[zHX,List.getElem?_map]
theorem zFF(n:Nat)(cs:List AV):(AV.mrgs n cs).length=cs.length:=by rw[zHX,List.length_map]
def mrgD:Nat->Nat
 |0=>0
 |d+1=>d
def mrgI(n:Nat):Nat->Nat->Nat
 |0,i=>n+i
 |_+1,i=>i
theorem zCx{α:Type}{l1 l:List α}{φ:List (List α)}{d i:Nat}{e:α}(h:get2 (l1::l::φ) d i=some e):get2 ((l++l1)::φ) (mrgD d) (mrgI l.length d i)=some e:=by
 match d,h with
 |0,h=>
  have h':l1[i]? =some e:=h
  show(l++l1)[l.length+i]? =some e
  rw[List.getElem?_append_right (by omega),Nat.add_sub_cancel_left];exact h'
 |1,h=>
  have h':l[i]? =some e:=h
  show(l++l1)[i]? =some e
  rw[List.getElem?_append_left (List.getElem?_eq_some_iff.1 h').1];exact h'
 |d+2,h=>exact h
theorem zC1{α:Type}{l1 l:List α}{φ:List (List α)}{d i:Nat}{e:α}(h:get2 ((l++l1)::φ) d i=some e):∃d' i',get2 (l1::l::φ) d' i'=some e/\mrgD d'=d/\mrgI l.length d' i'=i:=by
 match d,h with
 |0,h=>
  have h':(l++l1)[i]? =some e:=h
  rcases Nat.lt_or_ge i l.length with hi|hi
  .rw[List.getElem?_append_left hi]at h'
   exact⟨1,i,h',rfl,rfl⟩
  rw[List.getElem?_append_right hi]at h'
  exact⟨0,i-l.length,h',rfl,by show l.length+(i-l.length)=i;omega⟩
 |d+1,h=>exact⟨d+2,i,h,rfl,rfl⟩
theorem RA.mrg{l1 l:List Ent}{v:AV}{x:Value}(h:RA Pr (l1::l::φ) v x):RA Pr ((l++l1)::φ) (v.mrg l.length) x:=by
 induction h with
 |any x=>exact .any x
 |un=>exact .un
 |bl b=>exact .bl b
 |p h=>exact .p h
 | @ptr d i o g e h1 h2 h3=>
  have:=zCx h1
  match d,this with
  |0,this=>exact .ptr this h2 h3
  |1,this=>exact .ptr this h2 h3
  |d+2,this=>exact .ptr this h2 h3
 | @mp d i g e h1 h2 h3=>
  have:=zCx h1
  match d,this with
  |0,this=>exact .mp this h2 h3
  |1,this=>exact .mp this h2 h3
  |d+2,this=>exact .mp this h2 h3
 | @asl d i n k g e h1 h2 h3 h4=>
  have:=zCx h1
  match d,this with
  |0,this=>exact .asl this h2 h3 h4
  |1,this=>exact .asl this h2 h3 h4
  |d+2,this=>exact .asl this h2 h3 h4
 | @rnil d i e h1 h2 h3=>
  have:=zCx h1
  match d,this with
  |0,this=>exact .rnil this h2 h3
  |1,this=>exact .rnil this h2 h3
  |d+2,this=>exact .rnil this h2 h3
 | @rsl d i n g cap e h1 h2 h3 h4 h5 h6 h7=>
  have:=zCx h1
  match d,this with
  |0,this=>exact .rsl this h2 h3 h4 h5 h6 h7
  |1,this=>exact .rsl this h2 h3 h4 h5 h6 h7
  |d+2,this=>exact .rsl this h2 h3 h4 h5 h6 h7
 | @rptr d i n o g e h1 h2 h3 h4=>
  have:=zCx h1
  match d,this with
  |0,this=>exact .rptr this h2 h3 h4
  |1,this=>exact .rptr this h2 h3 h4
  |d+2,this=>exact .rptr this h2 h3 h4
 |rp vs h1 h2=>exact .rp vs h1 h2
 |bx vs h1 _ ih=>
  refine .bx vs (fun j c hc=>?_) (fun j c hc=>?_)
  .rw[zDc]at hc
   obtain⟨c',h,rfl⟩:=Option.map_eq_some_iff.1 hc
   exact h1 j c' h
  rw[zDc]at hc
  obtain⟨c',h,rfl⟩:=Option.map_eq_some_iff.1 hc
  exact ih j c' h
 | @onil d i e h1 h2 h3=>
  have:=zCx h1
  match d,this with
  |0,this=>exact .onil this h2 h3
  |1,this=>exact .onil this h2 h3
  |d+2,this=>exact .onil this h2 h3
 | @osl rows d i g cap e vs h1 h2 h3 h4 h5 h6 h7 h8 h9 h10=>
  have:=zCx h1
  match d,this with
  |0,this=>exact .osl vs this h2 h3 h4 h5 h6 h7 h8 h9 h10
  |1,this=>exact .osl vs this h2 h3 h4 h5 h6 h7 h8 h9 h10
  |d+2,this=>exact .osl vs this h2 h3 h4 h5 h6 h7 h8 h9 h10
 |agg h1 _ ih=>
  refine .agg (by rw[zFF];exact h1) fun j c x hc hx=>?_
  rw[zDc]at hc
  obtain⟨c',h,rfl⟩:=Option.map_eq_some_iff.1 hc
  exact ih j c' x h hx
 |tup h1 _ ih=>
  refine .tup (by rw[zFF];exact h1) fun j c x hc hx=>?_
  rw[zDc]at hc
  obtain⟨c',h,rfl⟩:=Option.map_eq_some_iff.1 hc
  exact ih j c' x h hx
 |fn h1 h2 _ _ Sb Lb=>
  refine .fn (by rw[zFF];exact h1) (by rw[zFF];exact h2) (fun j c x hc hx=>?_) (fun j c x hc hx=>?_)
  .rw[zDc]at hc
   obtain⟨c',h,rfl⟩:=Option.map_eq_some_iff.1 hc
   exact Sb j c' x h hx
  rw[zDc]at hc
  obtain⟨c',h,rfl⟩:=Option.map_eq_some_iff.1 hc
  exact Lb j c' x h hx
def AObj.mrg(n:Nat):AObj->AObj
 | .cells cs t=>.cells (AV.mrgs n cs) t
 | .tok e k m=>.tok e k m
 | .row e k m cs=>.row e k m (AV.mrgs n cs)
 | .map es=>.map (es.map fun kv=>(kv.1,kv.2.mrg n))
 | .dead=>.dead
 | .raw _ _ _ _=>.dead
theorem RelO.mrg{l1 l:List Ent}{o:AObj}{e:Ent}(h:RelO Pr (l1::l::φ) w o e):RelO Pr ((l++l1)::φ) w (o.mrg l.length) e:=by
 cases o with
 |dead=>trivial
 |raw=>trivial
 |tok=>exact h
 |cells cs t=>
  obtain⟨h0,g,xs,h1,h2,h3,h4,h5⟩:=h
  refine⟨h0,g,xs,h1,h2,by rw[zFF];exact h3,fun j c x a b=>?_,h5⟩
  rw[zDc]at a
  obtain⟨c',h,rfl⟩:=Option.map_eq_some_iff.1 a
  exact(h4 j c' x h b).mrg
 |row E k n cs=>
  obtain⟨h0,h1,h2,h3,h5,h4⟩:=h
  refine⟨h0,h1,h2,h3,by rw[zFF];exact h5,h4.imp id ?_⟩
  rintro⟨g,xs,a,b,c,d,e1,f,q,i⟩
  refine⟨g,xs,a,b,c,d,e1,f,fun j c x u v=>?_,i⟩
  rw[zDc]at u
  obtain⟨c',h,rfl⟩:=Option.map_eq_some_iff.1 u
  exact(q j c' x h v).mrg
 |map es=>
  obtain⟨h0,g,ents,Aa,h1,h2,h3,h4,h5,h6⟩:=h
  refine⟨h0,g,ents,Aa,h1,h2,by simpa using h3,fun j kv en a b=>?_,h5,h6⟩
  rw[List.getElem?_map]at a
  obtain⟨cg,h,rfl⟩:=Option.map_eq_some_iff.1 a
  exact⟨(h4 j cg en h b).1,(h4 j cg en h b).2.mrg⟩
theorem zRl(l l1:List Ent)(φ:Fi2):Fle (l::φ) ((l++l1)::φ):=fun d i e h=>⟨e,by
 cases d with
 |zero=>
  have h':l[i]? =some e:=h
  show(l++l1)[i]? =some e
  rw[List.getElem?_append_left (List.getElem?_eq_some_iff.1 h').1];exact h'
 |succ d=>exact h,e.le_refl⟩
theorem zYF{l1 l:List Ent}{L1 L:List AObj}{R:ASt}(h:Rel Pr (l1::l::φ) (L1::L::R) w):Rel Pr ((l++l1)::φ) ((L++L1.map (AObj.mrg L.length))::R) w:=by
 have hs:=h.shape
 simp only[List.map_cons,List.cons.injEq]at hs
 obtain⟨Za,hl,Cs⟩:=hs
 refine⟨fun d i o ho=>?_,fun d i e d' i' e' g a b c f=>?_,fun d i e g a b=>?_,h.pr,fun g cs hm=>?_,?_⟩
 .cases d with
  |succ d=>
   obtain⟨e,k1,k2⟩:=h.obj (d+2) i o ho
   exact⟨e,k1,k2⟩
  |zero=>
   have Ba:(L++L1.map (AObj.mrg L.length))[i]? =some o:=ho
   rcases Nat.lt_or_ge i L.length with hi|hi
   .rw[List.getElem?_append_left hi]at Ba
    obtain⟨e,k1,k2⟩:=h.obj 1 i o Ba
    refine⟨e,zCx k1,RelO.keep (φ:=l::φ) k2 (Prot.le_refl _) (zRl l l1 φ) fun g _=>⟨rfl,fun _ h=>h⟩⟩
   rw[List.getElem?_append_right hi,List.getElem?_map]at Ba
   obtain⟨o0,h0,rfl⟩:=Option.map_eq_some_iff.1 Ba
   obtain⟨e,k1,k2⟩:=h.obj 0 (i-L.length) o0 h0
   refine⟨e,?_,?_⟩
   .have:=zCx k1
    rw[show mrgI l.length 0 (i-L.length)=i by show l.length+(i-L.length)=i;omega]at this
    exact this
   have k3:=RelO.mrg (l1:=l1) (l:=l) (φ:=φ) k2
   rw[hl]at k3;exact k3
 .obtain⟨d1,i1,a1,a2,a3⟩:=zC1 a
  obtain⟨d2,i2,b1,b2,b3⟩:=zC1 b
  obtain⟨rfl,rfl⟩:=h.dis _ _ _ _ _ _ g a1 b1 c f
  exact⟨a2.symm.trans b2,a3.symm.trans b3⟩
 .obtain⟨d1,i1,a1,a2,a3⟩:=zC1 a
  exact h.lt _ _ _ g a1 b
 .obtain⟨t1,t2,t3,t4⟩:=h.tb g cs hm
  exact⟨t1,t2,t3,fun d i e a=>by
   obtain⟨d1,i1,a1,_,_⟩:=zC1 a
   exact t4 _ _ _ a1⟩
 simp[hl,Za,Cs]
def zRm(P:Program)(rs:List ResultVar)(r:AV)(S':ASt):Exit->List AV->ASt->Prop:=fun e fr S1=>
 (e= .normal\/e= .ret)/\∃vs,resA P fr S1 rs=some vs/\∃L1 L R,S1=L1::L::R/\(retA vs).mrg L.length=r/\(L++L1.map (AObj.mrg L.length))::R=S'
theorem zBX(P:Program)(rs:List ResultVar)(r:AV)(e:Exit)(fr:List AV)(L1 L:List AObj)(R S':ASt):zRm P rs r S' e fr (L1::L::R)=((e= .normal\/e= .ret)/\∃vs,resA P fr (L1::L::R) rs=some vs/\(retA vs).mrg L.length=r/\(L++L1.map (AObj.mrg L.length))::R=S'):=by
 unfold zRm
 apply propext
 constructor
 .rintro⟨h,vs,h1,Ds,L',R',h2,h3,h4⟩
  cases h2;exact⟨h,vs,h1,h3,h4⟩
 rintro⟨h,vs,h1,h3,h4⟩
 exact⟨h,vs,h1,_,_,_,rfl,h3,h4⟩
attribute [simp] zBX
theorem ADet.merge{P:Program}{K:FuncId}{args:List AV}{S S':ASt}{r:AV}{fn:Func}{c:Code}(hm:P.follows .mixedOrders=true)(hK:∀xs w,(callFunc K xs).run P w= .ok (.enter K xs) w)(hf:P.funcs[K]? =some fn)(hb:fn.body=some c)
  (h:awp P c (AV.ups 1 args++List.replicate (fn.ntmps-args.length) .un) ([]::S) (zRm P fn.results.toList r S')):ADet P K args S r S':=by
 refine⟨hK,fun Pr φ xs w da hR hne=>?_⟩
 refine calls_of_wp hf hb ?_
 have ub:RF Pr ([]::φ) (AV.ups 1 args++List.replicate (fn.ntmps-args.length) .un) {tmps:=xs++Array.replicate (fn.ntmps-xs.size) undef,defers:=[]}:=by
  refine⟨by simp[zA0,da.1],fun t v x hv hx=>?_⟩
  rcases Nat.lt_or_ge t args.length with ht|ht
  .rw[List.getElem?_append_left (by rw[zA0];exact ht),zCO]at hv
   obtain⟨v0,h0,rfl⟩:=Option.map_eq_some_iff.1 hv
   simp only at hx;rw[Array.getElem?_append_left (by rw[<-da.1];exact ht)]at hx
   exact RA.up (k:=1) (da.2 t v0 x h0 hx)
  rw[List.getElem?_append_right (by rw[zA0];exact ht)]at hv
  simp only at hx;rw[Array.getElem?_append_right (by rw[<-da.1];exact ht)]at hx
  rw[List.getElem?_replicate]at hv;rw[Array.getElem?_replicate]at hx;split at hv
  .split at hx
   .cases hv;cases hx;exact .un
   cases hx
  cases hv
 refine wp_mono (zDa hm c _ Pr ([]::φ) _ _ ([]::S) w ub (zC8 hR) (by simp) h) fun e a' w' hp=>?_
 obtain⟨ja,S1,Pr',φ',⟨he,vs,h1,L1,L,R,rfl,h2,h3⟩,h4,h5,h6,h7⟩:=hp
 obtain⟨x,hx,ua⟩:=zCp (P:=P) (fn:=fn) h4 h5 h1
 have Vb:φ'≠ []:=zP h6 (by simp)
 obtain⟨l1,φ0,rfl⟩:=List.exists_cons_of_ne_nil Vb
 have Mh:=zDk h6
 have to:φ0≠ []:=fun h0=>by have:=h5.shape;rw[h0]at this;simp at this
 obtain⟨l,φ1,rfl⟩:=List.exists_cons_of_ne_nil to
 have ca:l.length=L.length:=by have:=h5.shape;simp at this;exact this.2.1
 have hF:=zRl l l1 φ1
 have Es:Stp Pr φ w Pr' ((l++l1)::φ1) w':=by
  refine⟨Mh.pl,Mh.fl.trans hF,fun d i e g a b=>?_,Mh.fr,?_,Mh.pn⟩
  .obtain⟨d1,i1,a1,_,_⟩:=zC1 a
   rcases h6.fresh _ _ _ g a1 b with⟨d0,i0,e1,k1,k2⟩|k1
   .cases d0 with
    |zero=>simp[get2]at k1
    |succ d0=>exact .inl ⟨d0,i0,e1,k1,k2⟩
   exact .inr k1
  have:=Mh.len;simpa using this
 have Ke:=hx.mrg
 rw[ca,h2]at Ke
 have Qq:=zYF h5
 rw[h3]at Qq
 have key:a'.defers=[]/\∃v,(results fn a'.tmps).run P w'= .ok v w'/\∃x Pr' φ',Ending.returned v= .returned x/\Stp Pr φ w Pr' φ' w'/\Rel Pr' φ' S' w'/\RA Pr' φ' r x:=
  ⟨h7,x,ua,x,Pr',_,rfl,Es,Qq,Ke⟩
 rcases he with rfl|rfl
 .exact key
 exact key
def rowC{α:Type}(enc:α->List PV)(l:List α):List AV:=(l.map fun x=>(enc x).map AV.p).flatten
theorem zWp{α:Type}{enc:α->List PV}{l:List α}:∀c∈rowC enc l,∃q,c= .p q:=fun c hc=>by
 obtain⟨cs,h1,h2⟩:=List.mem_flatten.1 hc
 obtain⟨x,_,rfl⟩:=List.mem_map.1 h1
 obtain⟨q,_,rfl⟩:=List.mem_map.1 h2
 exact⟨q,rfl⟩
theorem zU5{α:Type}(enc:α->List PV)(l:List α)(n:Nat):AV.cuts n (rowC enc l)=rowC enc l:=by
 rw[zF1]
 conv=>rhs;rw[<-List.map_id (rowC enc l)]
 exact List.map_congr_left fun c hc=>by obtain⟨q,rfl⟩:=zWp c hc;rfl
theorem zU6{α:Type}(enc:α->List PV)(l:List α)(n:Nat):AV.mrgs n (rowC enc l)=rowC enc l:=by
 rw[zHX]
 conv=>rhs;rw[<-List.map_id (rowC enc l)]
 exact List.map_congr_left fun c hc=>by obtain⟨q,rfl⟩:=zWp c hc;rfl
end Go.Proofs.YtdflkegnmmkkoaaGreatDoor
