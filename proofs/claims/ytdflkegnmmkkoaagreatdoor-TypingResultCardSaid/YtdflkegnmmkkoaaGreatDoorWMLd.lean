/- A part of the proof. -/
import Derived.Test.YtdflkegnmmkkoaaGreatDoorWMLt
import Derived.Defers
set_option linter.unusedVariables false
set_option linter.unusedSimpArgs false
set_option maxRecDepth 100000
set_option maxHeartbeats 32000000
namespace Go.Proofs.YtdflkegnmmkkoaaGreatDoor
open Go.RowKit
def zRP(P:Program)(K:FuncId)(args:List AV)(S S':ASt):Prop:=
 (∀xs w,(callFunc K xs).run P w= .ok (.enter K xs) w)/\∀Pr φ (xs:Array Value) w u,u≠ .run->RL Pr φ args xs->Rel Pr φ S w->φ≠ []->
  CallsD P K xs u w fun e u' w'=>u'=u/\∃x Pr' φ',e= .returned x/\Stp Pr φ w Pr' φ' w'/\Rel Pr' φ' S' w'
def RetD(S':ASt):Exit->List AV->ASt->Prop:=fun e fr S1=>(e= .normal\/e= .ret)/\S1.tail=S'
theorem zJy(S':ASt)(e:Exit)(fr:List AV)(L:List AObj)(R:ASt):RetD S' e fr (L::R)=((e= .normal\/e= .ret)/\R=S'):=rfl
theorem zEX{P:Program}{fn:Func}(h:fn.results= #[])(tmps:Array Value)(w:World):(results fn tmps).run P w= .ok (.tuple #[]) w:=by
 rw[zI6,h];simp
section
variable{P:Program}
theorem zD0{Pr:Prot}{φ:Fi2}{args:List AV}{xs:Array Value}{n:Nat}(da:RL Pr φ args xs):RF Pr ([]::φ) (AV.ups 1 args++List.replicate (n-args.length) .un) {tmps:=xs++Array.replicate (n-xs.size) undef,defers:=[]}:=by
 refine⟨by simp[zAK,da.1],fun t v x hv hx=>?_⟩
 rcases Nat.lt_or_ge t args.length with ht|ht
 .rw[List.getElem?_append_left (by rw[zAK];exact ht),zBt]at hv
  obtain⟨v0,h0,rfl⟩:=Option.map_eq_some_iff.1 hv
  simp only at hx;rw[Array.getElem?_append_left (by rw[<-da.1];exact ht)]at hx
  exact RA.up (k:=1) (da.2 t v0 x h0 hx)
 rw[List.getElem?_append_right (by rw[zAK];exact ht)]at hv
 simp only at hx;rw[Array.getElem?_append_right (by rw[<-da.1];exact ht)]at hx
 rw[List.getElem?_replicate]at hv;rw[Array.getElem?_replicate]at hx;split at hv
 .split at hx
  .cases hv;cases hx;exact .un
  cases hx
 cases hv
theorem zRP.intro{K:FuncId}{args:List AV}{S S':ASt}{fn:Func}{c:Code}(hm:P.follows .mixedOrders=true)(hK:∀xs w,(callFunc K xs).run P w= .ok (.enter K xs) w)(hf:P.funcs[K]? =some fn)(hb:fn.body=some c)(bc:fn.results= #[])
  (h:awp P c (AV.ups 1 args++List.replicate (fn.ntmps-args.length) .un) ([]::S) (RetD S')):zRP P K args S S':=by
 refine⟨hK,fun Pr φ xs w u hu da hR hne=>?_⟩
 refine callsD_of_wp hf hb ?_;refine wp_mono (zCx hm c _ Pr ([]::φ) _ _ ([]::S) w (zD0 da) (zCS hR) (by simp) h) fun e a' w' hp=>?_
 obtain⟨ja,S1,Pr',φ',⟨he,h3⟩,h4,h5,h6,h7⟩:=hp
 have Db:φ'≠ []:=zL h6 (by simp)
 obtain⟨l',φ1,rfl⟩:=List.exists_cons_of_ne_nil Db
 have tc:S1≠ []:=fun h0=>by have:=h5.shape;rw[h0]at this;simp at this
 obtain⟨L',S2,rfl⟩:=List.exists_cons_of_ne_nil tc
 simp only[List.tail_cons]at h3;subst h3
 have key:a'.defers=[]/\∃v,(results fn a'.tmps).run P w'= .ok v w'/\∃x Pr' φ',Ending.returned v= .returned x/\Stp Pr φ w Pr' φ' w'/\Rel Pr' φ' S2 w':=
  ⟨h7,_,zEX bc _ _,_,Pr',φ1,rfl,zCq h6,zB9 h5⟩
 rcases he with rfl|rfl
 .exact key
 exact key
def DR(Pr:Prot)(φ:Fi2):List AV->List Deferred->Prop
 | [],[]=>True
 |v::vs,d::ds=>(∃f la lb cap,v= .fn f la lb/\d.target= .fn f cap/\RA Pr φ (.fn f la lb) (.func f d.args cap))/\DR Pr φ vs ds
 |_,_=>False
theorem DR.mono{Pr Pr':Prot}{φ φ':Fi2}(hl:Pr.le Pr')(hf:Fle φ φ'):∀{vs:List AV} {ds:List Deferred},DR Pr φ vs ds->DR Pr' φ' vs ds
 | [],[],_=>trivial
 |v::vs,d::ds,⟨⟨f,la,lb,cap,h1,h2,h3⟩,h⟩=>⟨⟨f,la,lb,cap,h1,h2,h3.mono hl hf⟩,DR.mono hl hf h⟩
 | [],_::_,h=>h.elim
 |_::_,[],h=>h.elim
theorem DR.cut{Pr:Prot}{l:List Ent}{φ:Fi2}{n:Nat}:∀{vs:List AV} {ds:List Deferred},DR Pr (l::φ) vs ds->DR Pr (l.take n::φ) (AV.cuts n vs) ds
 | [],[],_=>trivial
 |v::vs,d::ds,⟨⟨f,la,lb,cap,h1,h2,h3⟩,h⟩=>⟨⟨f,AV.cuts n la,AV.cuts n lb,cap,by rw[h1];rfl,h2,by have:=h3.cut (n:=n);simpa [AV.cut]using this⟩,DR.cut h⟩
 | [],_::_,h=>h.elim
 |_::_,[],h=>h.elim
def DRun(P:Program):List AV->ASt->ASt->Prop
 | [],S,S'=>S=S'
 | .fn (.func K) la lb::vs,S,S'=>∃S1,zRP P K (la++lb) S S1/\DRun P vs S1 S'
 |_::_,_,_=>False
theorem zHp{fn:Func}(bc:fn.results= #[]){tmps:Array Value}{R:Ending->World->Prop}{Pr0:Prot}{φ0:Fi2}{w0:World}{S':ASt}(cj:∀Pr φ w,Stp Pr0 φ0 w0 Pr φ w->Rel Pr φ S' w->R (.returned (.tuple #[])) w):
  ∀(vs:List AV) (ds:List Deferred) (Pr:Prot) (φ:Fi2) (S:ASt) (w:World),DR Pr φ vs ds->Rel Pr φ S w->φ≠ []->Stp Pr0 φ0 w0 Pr φ w->DRun P vs S S'->Leaves P fn tmps R ds .returning w
 | [],[],Pr,φ,S,w,hd,hR,hne,hs,hk=>⟨_,zEX bc _ _,cj Pr φ w hs (by cases hk;exact hR)⟩
 | [],_::_,Pr,φ,S,w,hd,hR,hne,hs,hk=>hd.elim
 |_::_,[],Pr,φ,S,w,hd,hR,hne,hs,hk=>hd.elim
 |v::vs,d::ds,Pr,φ,S,w,⟨⟨f,la,lb,cap,h1,h2,h3⟩,hd⟩,hR,hne,hs,hk=>by
  subst h1
  cases f with
  |func K=>
   obtain⟨S1,⟨hK,hc⟩,hk⟩:=hk
   obtain⟨t,xs⟩:=d
   simp only at h2 h3;subst h2
   cases h3 with
   |fn l1 l2 c1 c2=>
    have da:RL Pr φ (la++lb) (xs++cap):=RL.append ⟨l1,c1⟩ ⟨l2,c2⟩
    refine leaves_cons (by simp) (f:=K) (args:=xs++cap) (by simp[invoke,hK]) ?_
    refine(hc Pr φ _ w .returning (by simp) da hR hne).mono fun e u' w' hp=>?_
    obtain⟨rfl,x,Pr',φ',rfl,s1,r1⟩:=hp
    exact zHp bc cj vs ds Pr' φ' S1 w' (hd.mono s1.pl s1.fl) r1 (zL s1 hne) (hs.trans s1) hk
  |_=>exact hk.elim
def zEI(Pr:Prot)(φ:Fi2)(w:World)(Q:Exit->List AV->ASt->List AV->Prop):Exit->Act->World->Prop:=fun e a' w'=>
 ∃ja S' Hc Pr' φ',Q e ja S' Hc/\RF Pr' φ' ja a'/\Rel Pr' φ' S' w'/\Stp Pr φ w Pr' φ' w'/\DR Pr' φ' Hc a'.defers
def zJA(o:Oper)(fr:List AV):Option AV:=
 match o.op with
 | .defer c=>
  match c.callee with
  | .value f=>
   match evA fr f with
   | .fn g fsts caps=>some (.fn g (fsts++c.args.toList.map (evA fr)) caps)
   |_=>none
  |_=>none
 |_=>none
def zAo(P:Program)(ops:Array Oper):List Oper->List AV->ASt->List AV->(List AV->ASt->List AV->Prop)->Prop
 | [],fr,S,ds,K=>K fr S ds
 |o::os,fr,S,ds,K=>
  match zBk ops o fr with
  |some true=>
   match zJA o fr with
   |some v=>zAo P ops os (putA fr o.dst .un) S (v::ds) K
   |none=>
    match zCl o fr with
    |some (F,args)=>∃r S',ADet P F args S r S'/\zAo P ops os (putA fr o.dst r) S' ds K
    |none=>
     match zDu P o fr S with
     |some (v,S')=>zAo P ops os (putA fr o.dst v) S' ds K
     |none=>False
  |some false=>zAo P ops os (putA fr o.dst .un) S ds K
  |none=>False
theorem zC9{ops:Array Oper}{K:List AV->ASt->List AV->Prop}{Q:Exit->List AV->ASt->List AV->Prop}(hQ:∀fr S ds,K fr S ds->Q .normal fr S ds){Pr0:Prot}{φ0:Fi2}{w0:World}:∀(os:List Oper) (i:Nat),ops.toList.drop i=os->∀(Pr:Prot) (φ:Fi2) (fr:List AV) (a:Act) (S:ASt) (ds:List AV) (w:World),RF Pr φ fr a->Rel Pr φ S w->φ≠ []->Stp Pr0 φ0 w0 Pr φ w->DR Pr φ ds a.defers->zAo P ops os fr S ds K->
  wpOps P ops (zEI Pr0 φ0 w0 Q) (List.range' i os.length) a w
 | [],i,hi,Pr,φ,fr,a,S,ds,w,h,hR,hne,Nd,hd0,hk=>⟨fr,S,ds,Pr,φ,hQ _ _ _ hk,h,hR,Nd,hd0⟩
 |o::os,i,hi,Pr,φ,fr,a,S,ds,w,h,hR,hne,Nd,hd0,hk=>by
  have ho:ops[i]? =some o:=by
   have:(ops.toList.drop i)[0]? =some o:=by rw[hi];rfl
   rw[List.getElem?_drop]at this
   simpa using this
  have Qd:ops.toList.drop (i+1)=os:=by rw[<-List.drop_drop,hi];rfl
  simp only[List.length_cons,List.range'_succ];rw[wpOps_cons];unfold wpOp;rw[ho];simp only[zAo]at hk
  have step:∀{v:AV} {S':ASt},Stepped P o fr S v S'->zAo P ops os (putA fr o.dst v) S' ds K->Region.wanted o (yielded ops a.tmps)=true->o.wp P a w (wpOps P ops (zEI Pr0 φ0 w0 Q) (List.range' (i+1) os.length)) (zEI Pr0 φ0 w0 Q):=fun hs Fa hw=>
   zAn h hR hne hs fun x w' Pr' φ' s1 s2 s3=>zC9 hQ os (i+1) Qd Pr' φ' _ _ _ ds w' ((h.mono s1.pl s1.fl).put o.dst s3) s2 (zL s1 hne) (Nd.trans s1) (by rw[zAT];exact hd0.mono s1.pl s1.fl) Fa
  split at hk
  .rename_i hw
   simp only[zBP h hw,if_true];refine .inl ?_;split at hk
   .rename_i v hv
    unfold zJA at hv;split at hv
    .rename_i c hop
     split at hv
     .rename_i f to
      split at hv
      .rename_i g fsts caps he
       cases hv
       have qg:=h.ev f
       rw[he]at qg
       generalize hy:a.eval f=y at qg
       cases qg with
       | @fn _ _ _ xs ys l1 l2 c1 c2=>
        have ta:(execOp a.eval o).run P w= .ok (.defer {target:=.fn g ys,args:=xs++c.args.map a.eval}) w:=by
         simp[execOp,hop,resolve,to,hy,Deferred.ofValue]
        simp only[Oper.wp,ta,Oper.upon_defer]
        have hA:RL Pr φ (fsts++c.args.toList.map (evA fr)) (xs++c.args.map a.eval):=RL.append ⟨l1,c1⟩ ⟨by simp,fun j q x hq hx=>by
         rw[List.getElem?_map]at hq
         obtain⟨q0,h0,rfl⟩:=Option.map_eq_some_iff.1 hq
         have ga:c.args[j]? =some q0:=by simpa using h0
         rw[Array.getElem?_map,ga]at hx;cases hx;exact h.ev _⟩
        have Ph:RF Pr φ (putA fr o.dst .un) ({a with defers:={target:=.fn g ys,args:=xs++c.args.map a.eval}::a.defers}.put o.dst undef):=by
         have h1:RF Pr φ fr {a with defers:={target:=.fn g ys,args:=xs++c.args.map a.eval}::a.defers}:=⟨h.len,h.at_⟩
         exact h1.put o.dst .un
        refine zC9 hQ os (i+1) Qd Pr φ _ _ S _ w Ph hR hne Nd ?_ hk;rw[zAT];exact⟨⟨g,_,caps,ys,rfl,rfl,.fn hA.1 l2 hA.2 c2⟩,hd0⟩
      cases hv
     cases hv
    cases hv
   split at hk
   .rename_i F args hc
    obtain⟨r,S',h1,h2⟩:=hk
    exact step (zDv hc h1) h2 (zBP h hw)
   split at hk
   .rename_i v S' hs
    exact step (zG5 hs) hk (zBP h hw)
   exact hk.elim
  .rename_i hw
   simp only[zBP h hw,Bool.false_eq_true,if_false];exact zC9 hQ os (i+1) Qd Pr φ _ _ S ds w (h.put o.dst (Pr:=Pr) (φ:=φ) (v:=.un) (x:=undef) .un) hR hne Nd (by rw[zAT];exact hd0) hk
  exact hk.elim
def zFU(o:Oper):Bool:=match o.op with| .defer _=>true|_=>false
def zLD{α:Type}(I:α->Prop)(F:α->List AV)(G:α->ASt)(D:α->List AV)(μ:α->Nat)(m:Nat)(n:α->Nat)(Q:Exit->List AV->ASt->List AV->Prop):Exit->List AV->ASt->List AV->Prop:=fun e ja S' Hc=>
 match e with
 | .normal=>∃a',I a'/\μ a'<m/\wkR (AV.cuts (n a') ja) (F a')/\wkT (trim (n a') S') (G a')/\AV.cuts (n a') Hc=D a'
 |e=>Q e ja S' Hc
def zRQ(body:List AV->ASt->List AV->(Exit->List AV->ASt->List AV->Prop)->Prop)(fr:List AV)(S:ASt)(ds:List AV)(Q:Exit->List AV->ASt->List AV->Prop):Prop:=
 ∃(α:Type) (I:α->Prop) (F:α->List AV) (G:α->ASt) (D:α->List AV) (μ:α->Nat) (a0:α) (n:α->Nat),I a0/\wkR fr (F a0)/\wkT S (G a0)/\ds=D a0/\(∀a,I a->top (G a0)<=n a)/\∀a,I a->body (F a) (G a) (D a) (zLD I F G D μ (μ a) n Q)
def zB4(P:Program):Code->List AV->ASt->List AV->(Exit->List AV->ASt->List AV->Prop)->Prop
 | .region id ops rb,fr,S,ds,Q=>if(ops.toList.any zFU&& !rb)=true then zAo P ops ops.toList fr S ds (Q .normal)else awp P (.region id ops rb) fr S fun e fr S=>Q e fr S ds
 | .seq a b,fr,S,ds,Q=>zB4 P a fr S ds fun e fr S ds=>
  match e with
  | .normal=>zB4 P b fr S ds Q
  |e=>Q e fr S ds
 | .cond c t e,fr,S,ds,Q=>
  match evA fr c with
  | .p (.v (.bool b))=>if b=true then zB4 P t fr S ds Q else zB4 P e fr S ds Q
  |_=>False
 | .block id body,fr,S,ds,Q=>zB4 P body fr S ds fun e fr S ds=>
  match e with
  | .exit j=>if j=id then Q .normal fr S ds else Q (.exit j) fr S ds
  |e=>Q e fr S ds
 | .loop body,fr,S,ds,Q=>zRQ (zB4 P body) fr S ds Q
 | .exit id,fr,S,ds,Q=>Q (.exit id) fr S ds
 | .label _,fr,S,ds,Q=>Q .normal fr S ds
 | .ret,fr,S,ds,Q=>Q .ret fr S ds
 | .skip,fr,S,ds,Q=>Q .normal fr S ds
 |_,_,_,_,_=>False
theorem zEI.trans{Pr Cb:Prot}{φ φ1:Fi2}{w w1:World}{Q:Exit->List AV->ASt->List AV->Prop}(h:Stp Pr φ w Cb φ1 w1)(e:Exit)(a':Act)(w':World)(hp:zEI Cb φ1 w1 Q e a' w'):zEI Pr φ w Q e a' w':=by
 obtain⟨ja,S',Hc,Pr',φ',h1,h2,h3,h4,h5⟩:=hp
 exact⟨ja,S',Hc,Pr',φ',h1,h2,h3,h.trans h4,h5⟩
theorem zUU{c:Code}(hm:P.follows .mixedOrders=true){Q:Exit->List AV->ASt->List AV->Prop}{Pr:Prot}{φ:Fi2}{fr:List AV}{a:Act}{S:ASt}{ds:List AV}{w:World}(h:RF Pr φ fr a)(hR:Rel Pr φ S w)(hne:φ≠ [])(hd:DR Pr φ ds a.defers)(hk:awp P c fr S fun e fr S=>Q e fr S ds):c.wp P (zEI Pr φ w Q) a w:=
 wp_mono (zCx hm c _ Pr φ fr a S w h hR hne hk) fun e a' w' hp=>by
  obtain⟨ja,S',Pr',φ',h1,h2,h3,h4,h5⟩:=hp
  exact⟨ja,S',ds,Pr',φ',h1,h2,h3,h4,by rw[h5];exact hd.mono h4.pl h4.fl⟩
theorem zD1(hm:P.follows .mixedOrders=true):∀(c:Code) (Q:Exit->List AV->ASt->List AV->Prop) (Pr:Prot) (φ:Fi2) (fr:List AV) (a:Act) (S:ASt) (ds:List AV) (w:World),RF Pr φ fr a->Rel Pr φ S w->φ≠ []->DR Pr φ ds a.defers->zB4 P c fr S ds Q->c.wp P (zEI Pr φ w Q) a w
 | .skip,Q,Pr,φ,fr,a,S,ds,w,h,hR,hne,hd,hk=>wp_skip ⟨fr,S,ds,Pr,φ,hk,h,hR,Stp.refl _ _ _,hd⟩
 | .label l,Q,Pr,φ,fr,a,S,ds,w,h,hR,hne,hd,hk=>wp_label ⟨fr,S,ds,Pr,φ,hk,h,hR,Stp.refl _ _ _,hd⟩
 | .exit id,Q,Pr,φ,fr,a,S,ds,w,h,hR,hne,hd,hk=>wp_exit ⟨fr,S,ds,Pr,φ,hk,h,hR,Stp.refl _ _ _,hd⟩
 | .ret,Q,Pr,φ,fr,a,S,ds,w,h,hR,hne,hd,hk=>wp_ret ⟨fr,S,ds,Pr,φ,hk,h,hR,Stp.refl _ _ _,hd⟩
 | .region id ops rb,Q,Pr,φ,fr,a,S,ds,w,h,hR,hne,hd,hk=>by
  simp only[zB4]at hk;split at hk
  .rename_i hc
   simp only[Bool.and_eq_true,Bool.not_eq_true']at hc;rw[hc.2];refine wp_region ?_
   have:=zC9 (Q:=Q) (fun _ _ _ h=>h) ops.toList 0 rfl Pr φ fr a S ds w h hR hne (Stp.refl _ _ _) hd hk
   rwa [List.range_eq_range',<-Array.length_toList]
  exact zUU hm h hR hne hd hk
 | .seq x y,Q,Pr,φ,fr,a,S,ds,w,h,hR,hne,hd,hk=>by
  refine wp_seq (wp_mono (zD1 hm x _ Pr φ fr a S ds w h hR hne hd hk) fun e a' w' hp=>?_)
  obtain⟨ja,S',Hc,Pr',φ',h1,h2,h3,h4,h5⟩:=hp
  cases e with
  |normal=>exact wp_mono (zD1 hm y Q Pr' φ' ja a' S' Hc w' h2 h3 (zL h4 hne) h5 h1) fun e Xg Yg hp=>zEI.trans h4 e Xg Yg hp
  |_=>exact⟨ja,S',Hc,Pr',φ',h1,h2,h3,h4,h5⟩
 | .cond c t e,Q,Pr,φ,fr,a,S,ds,w,h,hR,hne,hd,hk=>by
  simp only[zB4]at hk;split at hk
  .rename_i b hb
   have hc:=zT (h.ev c) (by rw[hb];rfl)
   refine wp_cond hc ?_
   cases b with
   |true=>exact zD1 hm t Q Pr φ fr a S ds w h hR hne hd hk
   |false=>exact zD1 hm e Q Pr φ fr a S ds w h hR hne hd hk
  exact hk.elim
 | .block id body,Q,Pr,φ,fr,a,S,ds,w,h,hR,hne,hd,hk=>by
  refine wp_block (wp_mono (zD1 hm body _ Pr φ fr a S ds w h hR hne hd hk) fun e a' w' hp=>?_)
  obtain⟨ja,S',Hc,Pr',φ',h1,h2,h3,h4,h5⟩:=hp
  cases e with
  |exit j=>
   simp only[Exit.inBlock];simp only at h1;split
   .rename_i hj
    rw[if_pos hj]at h1;exact⟨ja,S',Hc,Pr',φ',h1,h2,h3,h4,h5⟩
   rename_i hj
   rw[if_neg hj]at h1
   exact⟨ja,S',Hc,Pr',φ',h1,h2,h3,h4,h5⟩
  |_=>exact⟨ja,S',Hc,Pr',φ',h1,h2,h3,h4,h5⟩
 | .loop body,Q,Pr,φ,fr,a,S,ds,w,h,hR,hne,hd,hk=>by
  obtain⟨α,I,F,G,D,μ,a0,n,hI,Ab,Lg,uo,hn,hb⟩:=hk
  have Tb:RF Pr φ (F a0) a:=h.wk (zEM Ab)
  have Df:Rel Pr φ (G a0) w:=zEH hR (zEN Lg)
  have hn2:top φ=top (G a0):=zBu Df.shape
  refine wp_loop_ghost (fun k a1 w1=>∃m Cb φ1,I m/\μ m=k/\RF Cb φ1 (F m) a1/\Rel Cb φ1 (G m) w1/\Stp Pr φ w Cb φ1 w1/\DR Cb φ1 (D m) a1.defers) (μ a0) ⟨a0,Pr,φ,hI,rfl,Tb,Df,Stp.refl _ _ _,by rw[<-uo];exact hd⟩ ?_
  rintro k a1 w1 ⟨m,Cb,φ1,Kh,rfl,hf,hr,hs,Dc⟩
  refine wp_mono (zD1 hm body _ Cb φ1 (F m) a1 (G m) (D m) w1 hf hr (zL hs hne) Dc (hb m Kh)) fun e a2 w2 hp=>?_
  obtain⟨ja,S',Hc,pc,φ2,h1,h2,h3,h4,h5⟩:=hp
  cases e with
  |normal=>
   obtain⟨m',Fe,hlt,Lh,ud,vo⟩:=h1
   have Ra:=hs.trans h4
   have vc:φ2≠ []:=zL Ra hne
   obtain⟨l2,φr,rfl⟩:=List.exists_cons_of_ne_nil vc
   obtain⟨l0,φ0,rfl⟩:=List.exists_cons_of_ne_nil hne
   have Ef:S'≠ []:=fun h0=>by have:=h3.shape;rw[h0]at this;simp at this
   obtain⟨L',SR,rfl⟩:=List.exists_cons_of_ne_nil Ef
   have Ge:l0.length<=n m':=Nat.le_trans (Nat.le_of_eq hn2) (hn m' Fe)
   have qf:RF pc (l2.take (n m')::φr) (AV.cuts (n m') ja) a2:=⟨by rw[zCG];exact h2.len,fun t c x hc hx=>by
    rw[zBo]at hc
    obtain⟨c0,h0,rfl⟩:=Option.map_eq_some_iff.1 hc
    exact(h2.at_ t c0 x h0 hx).cut⟩
   exact⟨μ m',hlt,m',pc,l2.take (n m')::φr,Fe,rfl,qf.wk (zEM Lh),zEH (zDt h3 (n m')) (zEN ud),zEt Ra Ge,by rw[<-vo];exact h5.cut⟩
  |_=>exact⟨ja,S',Hc,pc,φ2,h1,h2,h3,hs.trans h4,h5⟩
 | .scope _,Q,Pr,φ,fr,a,S,ds,w,h,hR,hne,hd,hk=>hk.elim
 | .rangeFunc _ _ _ _,Q,Pr,φ,fr,a,S,ds,w,h,hR,hne,hd,hk=>hk.elim
 | .goto _,Q,Pr,φ,fr,a,S,ds,w,h,hR,hne,hd,hk=>hk.elim
 | .refuse _,Q,Pr,φ,fr,a,S,ds,w,h,hR,hne,hd,hk=>hk.elim
def zJz(P:Program)(S':ASt):Exit->List AV->ASt->List AV->Prop:=fun e fr S1 ds=>(e= .normal\/e= .ret)/\∃S2,DRun P ds S1 S2/\S2.tail=S'
theorem ADet.introD{K:FuncId}{args:List AV}{S S':ASt}{fn:Func}{c:Code}(hm:P.follows .mixedOrders=true)(hK:∀xs w,(callFunc K xs).run P w= .ok (.enter K xs) w)(hf:P.funcs[K]? =some fn)(hb:fn.body=some c)(bc:fn.results= #[])
  (h:zB4 P c (AV.ups 1 args++List.replicate (fn.ntmps-args.length) .un) ([]::S) [] (zJz P S')):ADet P K args S .un S':=by
 refine⟨hK,fun Pr φ xs w da hR hne=>?_⟩
 refine calls_of_wp_defers hf hb ?_;refine wp_mono (zD1 hm c _ Pr ([]::φ) _ _ ([]::S) [] w (zD0 da) (zCS hR) (by simp) trivial h) fun e a' w' hp=>?_
 obtain⟨ja,S1,ds,Pr',φ',⟨he,S2,ta,h3⟩,h4,h5,h6,h7⟩:=hp
 have key:Leaves P fn a'.tmps (fun e w'=>∃x Pr' φ',e= .returned x/\Stp Pr φ w Pr' φ' w'/\Rel Pr' φ' S' w'/\RA Pr' φ' .un x) a'.defers .returning w':=by
  refine zHp (P:=P) bc (Pr0:=Pr) (φ0:=[]::φ) (w0:=w) (S':=S2) (fun pc φ2 w2 s2 r2=>?_) ds a'.defers Pr' φ' S1 w' h7 h5 (zL h6 (by simp)) h6 ta
  have Db:φ2≠ []:=zL s2 (by simp)
  obtain⟨l',φ1,rfl⟩:=List.exists_cons_of_ne_nil Db
  have tc:S2≠ []:=fun h0=>by have:=r2.shape;rw[h0]at this;simp at this
  obtain⟨L',S3,rfl⟩:=List.exists_cons_of_ne_nil tc
  simp only[List.tail_cons]at h3;subst h3;exact⟨_,pc,φ1,rfl,zCq s2,zB9 r2,.un⟩
 rcases he with rfl|rfl
 .exact key
 exact key
end
section
variable{P:Program}{fr:List AV}{S:ASt}{ds:List AV}{Q:Exit->List AV->ASt->List AV->Prop}
def zUV(P:Program)(b:Code)(Q:Exit->List AV->ASt->List AV->Prop)(e:Exit)(fr:List AV)(S:ASt)(ds:List AV):Prop:=match e with| .normal=>zB4 P b fr S ds Q|e=>Q e fr S ds
def zRR(id:Nat)(Q:Exit->List AV->ASt->List AV->Prop)(e:Exit)(fr:List AV)(S:ASt)(ds:List AV):Prop:=match e with| .exit j=>if j=id then Q .normal fr S ds else Q (.exit j) fr S ds|e=>Q e fr S ds
def zRS(ds:List AV)(Q:Exit->List AV->ASt->List AV->Prop)(e:Exit)(fr:List AV)(S:ASt):Prop:=Q e fr S ds
theorem zHq(e:Exit):zRS ds Q e fr S=Q e fr S ds:=rfl
theorem zGo(b:Code):zUV P b Q .normal fr S ds=zB4 P b fr S ds Q:=rfl
theorem zJB(b:Code)(j:Nat):zUV P b Q (.exit j) fr S ds=Q (.exit j) fr S ds:=rfl
theorem zLE(b:Code):zUV P b Q .ret fr S ds=Q .ret fr S ds:=rfl
theorem zEY(i:Nat):zRR i Q .normal fr S ds=Q .normal fr S ds:=rfl
theorem zGS(i j:Nat):zRR i Q (.exit j) fr S ds=if j=i then Q .normal fr S ds else Q (.exit j) fr S ds:=rfl
theorem zHr(i:Nat):zRR i Q .ret fr S ds=Q .ret fr S ds:=rfl
theorem zJC:zB4 P .skip fr S ds Q=Q .normal fr S ds:=by rw[zB4]
theorem zGp(id:Nat)(ops:Array Oper)(rb:Bool):zB4 P (.region id ops rb) fr S ds Q=if(ops.toList.any zFU&& !rb)=true then zAo P ops ops.toList fr S ds (Q .normal)else awp P (.region id ops rb) fr S (zRS ds Q):=by rw[zB4]<;>rfl
theorem zLF(a b:Code):zB4 P (.seq a b) fr S ds Q=zB4 P a fr S ds (zUV P b Q):=by rw[zB4]<;>congr 1
theorem zJD(c:Operand)(t e:Code):zB4 P (.cond c t e) fr S ds Q=(match evA fr c with| .p (.v (.bool b))=>if b=true then zB4 P t fr S ds Q else zB4 P e fr S ds Q|_=>False):=by rw[zB4]<;>rfl
theorem zHs(id:Nat)(c:Code):zB4 P (.block id c) fr S ds Q=zB4 P c fr S ds (zRR id Q):=by rw[zB4]<;>congr 1
theorem zJE(id:Nat):zB4 P (.exit id) fr S ds Q=Q (.exit id) fr S ds:=by rw[zB4]
theorem zHt(l:Nat):zB4 P (.label l) fr S ds Q=Q .normal fr S ds:=by rw[zB4]
theorem zLG:zB4 P .ret fr S ds Q=Q .ret fr S ds:=by rw[zB4]
theorem zEZ{ops:Array Oper}{K:List AV->ASt->List AV->Prop}:zAo P ops [] fr S ds K=K fr S ds:=by rw[zAo]
@[reducible] def CallDf (P : Program) (F : Nat) (args : List AV) (S : ASt) (K : AV -> ASt -> Prop) : Prop:=∃ r S',ADet P F args S r S' /\ K r S'
def zV6(P:Program)(ops:Array Oper)(os:List Oper)(fr:List AV)(dst:Option Nat)(ds:List AV)(K:List AV->ASt->List AV->Prop)(r:AV)(S:ASt):Prop:=zAo P ops os (putA fr dst r) S ds K
theorem zHu{ops:Array Oper}(os:List Oper)(dst:Option Nat){K:List AV->ASt->List AV->Prop}(r:AV):zV6 P ops os fr dst ds K r S=zAo P ops os (putA fr dst r) S ds K:=rfl
theorem zD2{ops:Array Oper}{K:List AV->ASt->List AV->Prop}(o:Oper)(os:List Oper):zAo P ops (o::os) fr S ds K=(match zBk ops o fr with
  |some true=>
   match zJA o fr with
   |some v=>zAo P ops os (putA fr o.dst .un) S (v::ds) K
   |none=>
    match zCl o fr with
    |some (F,args)=>CallDf P F args S (zV6 P ops os fr o.dst ds K)
    |none=>
     match zDu P o fr S with
     |some (v,S')=>zAo P ops os (putA fr o.dst v) S' ds K
     |none=>False
  |some false=>zAo P ops os (putA fr o.dst .un) S ds K
  |none=>False):=by rw[zAo]<;>rfl
theorem zFs{α:Type}{I:α->Prop}{F:α->List AV}{G:α->ASt}{D:α->List AV}{μ:α->Nat}{m:Nat}{n:α->Nat}{ja:List AV}{S':ASt}{Hc:List AV}:zLD I F G D μ m n Q .normal ja S' Hc=∃a',I a'/\μ a'<m/\wkR (AV.cuts (n a') ja) (F a')/\wkT (trim (n a') S') (G a')/\AV.cuts (n a') Hc=D a':=rfl
theorem zHv{α:Type}{I:α->Prop}{F:α->List AV}{G:α->ASt}{D:α->List AV}{μ:α->Nat}{m:Nat}{n:α->Nat}{ja:List AV}{S':ASt}{Hc:List AV}(j:Nat):zLD I F G D μ m n Q (.exit j) ja S' Hc=Q (.exit j) ja S' Hc:=rfl
theorem zJF{α:Type}{I:α->Prop}{F:α->List AV}{G:α->ASt}{D:α->List AV}{μ:α->Nat}{m:Nat}{n:α->Nat}{ja:List AV}{S':ASt}{Hc:List AV}:zLD I F G D μ m n Q .ret ja S' Hc=Q .ret ja S' Hc:=rfl
theorem zHw{S':ASt}(e:Exit):zJz P S' e fr S ds=((e= .normal\/e= .ret)/\∃S2,DRun P ds S S2/\S2.tail=S'):=by rw[zJz]
end
theorem zE0{P:Program}{fr:List AV}{S:ASt}{ds:List AV}{Q:Exit->List AV->ASt->List AV->Prop}{body:Code}{α:Type}(I:α->Prop)(F:α->List AV)(G:α->ASt)(D:α->List AV)(μ:α->Nat)(n:α->Nat)(a0:α)(h0:I a0)(hn:∀a,I a->top (G a0)<=n a)(hF:wkR fr (F a0))(hG:wkT S (G a0))(hD:ds=D a0)(h:∀a,I a->zB4 P body (F a) (G a) (D a) (zLD I F G D μ (μ a) n Q)):zB4 P (.loop body) fr S ds Q:=⟨α,I,F,G,D,μ,a0,n,h0,hF,hG,hD,hn,h⟩
end Go.Proofs.YtdflkegnmmkkoaaGreatDoor
namespace Go.Proofs.YtdflkegnmmkkoaaGreatDoor
open Go.RowKit
variable{Pr:Prot}{w:World}{φ:Fi2}
mutual
def AV.fz(i:Nat)(cs:List AV):AV->AV
 | .ptr d j o=>if d=0/\j=i then .bx (cs.drop o)else .ptr d j o
 | .agg l=>.agg (AV.fzs i cs l)
 | .tup l=>.tup (AV.fzs i cs l)
 | .fn f la lb=>.fn f (AV.fzs i cs la) (AV.fzs i cs lb)
 | .any=>.any
 | .un=>.un
 | .bl=>.bl
 | .p q=>.p q
 | .mp d j=>.mp d j
 | .asl d j n k=>.asl d j n k
 | .rsl d j n k=>.rsl d j n k
 | .rptr d j n o=>.rptr d j n o
 | .rp l=>.rp l
 | .bx l=>.bx (AV.fzs i cs l)
 | .osl k rows d j=>.osl k rows d j
def AV.fzs(i:Nat)(cs:List AV):List AV->List AV
 | []=>[]
 |c::l=>c.fz i cs::AV.fzs i cs l
end
theorem zFV(i:Nat)(cs:List AV):∀(l:List AV) (j:Nat),(AV.fzs i cs l)[j]? =(l[j]?).map (AV.fz i cs)
 | [],j=>by simp[AV.fzs]
 |c::l,0=>by simp[AV.fzs]
 |c::l,j+1=>by simp[AV.fzs,zFV i cs l j]
theorem zJ0(i:Nat)(cs:List AV)(l:List AV):(AV.fzs i cs l).length=l.length:=by
 induction l with
 |nil=>rfl
 |cons c l ih=>simp[AV.fzs,ih]
def Fzn(Pr:Prot)(φ:Fi2)(i:Nat)(cs:List AV):Prop:=∃(e:Ent) (g:Nat) (vs:Nat->Value),get2 φ 0 i=some e/\e.blk=some g/\(∀(j:Nat) (p:AV),cs[j]? =some p->Pr g j=some (vs j))/\∀(j:Nat) (p:AV),cs[j]? =some p->RA Pr φ p (vs j)
theorem RA.fz{i:Nat}{cs:List AV}(hz:Fzn Pr φ i cs){v:AV}{x:Value}(h:RA Pr φ v x):RA Pr φ (v.fz i cs) x:=by
 induction h with
 |any x=>exact .any x
 |un=>exact .un
 |bl b=>exact .bl b
 |p h=>exact .p h
 | @ptr d j o g e h1 h2 h3=>
  unfold AV.fz;split
  .rename_i hc
   obtain⟨rfl,rfl⟩:=hc
   obtain⟨e',g',vs,k1,k2,k3,k4⟩:=hz
   rw[h1]at k1;cases k1;rw[h3]at k2;cases k2;exact .bx (fun j=>vs (o+j)) (fun j p hp=>k3 _ _ (by rw[List.getElem?_drop]at hp;exact hp)) (fun j p hp=>k4 _ _ (by rw[List.getElem?_drop]at hp;exact hp))
  exact .ptr h1 h2 h3
 |mp h1 h2 h3=>exact .mp h1 h2 h3
 |asl h1 h2 h3 h4=>exact .asl h1 h2 h3 h4
 |rnil h1 h2 h3=>exact .rnil h1 h2 h3
 |rsl h1 h2 h3 h4 h5 h6 h7=>exact .rsl h1 h2 h3 h4 h5 h6 h7
 |rptr h1 h2 h3 h4=>exact .rptr h1 h2 h3 h4
 |rp vs h1 h2=>exact .rp vs h1 h2
 |bx vs h1 _ ih=>
  refine .bx vs (fun j c hc=>?_) (fun j c hc=>?_)
  .rw[zFV]at hc
   obtain⟨c',h,rfl⟩:=Option.map_eq_some_iff.1 hc
   exact h1 j c' h
  rw[zFV]at hc
  obtain⟨c',h,rfl⟩:=Option.map_eq_some_iff.1 hc
  exact ih j c' h
 |onil h1 h2 h3=>exact .onil h1 h2 h3
 |osl vs h1 h2 h3 h4 h5 h6 h7 h8 h9 h10=>exact .osl vs h1 h2 h3 h4 h5 h6 h7 h8 h9 h10
 |agg h1 _ ih=>
  refine .agg (by rw[zJ0];exact h1) fun j c x hc hx=>?_
  rw[zFV]at hc
  obtain⟨c',h,rfl⟩:=Option.map_eq_some_iff.1 hc
  exact ih j c' x h hx
 |tup h1 _ ih=>
  refine .tup (by rw[zJ0];exact h1) fun j c x hc hx=>?_
  rw[zFV]at hc
  obtain⟨c',h,rfl⟩:=Option.map_eq_some_iff.1 hc
  exact ih j c' x h hx
 |fn h1 h2 _ _ Ub Mb=>
  refine .fn (by rw[zJ0];exact h1) (by rw[zJ0];exact h2) (fun j c x hc hx=>?_) (fun j c x hc hx=>?_)
  .rw[zFV]at hc
   obtain⟨c',h,rfl⟩:=Option.map_eq_some_iff.1 hc
   exact Ub j c' x h hx
  rw[zFV]at hc
  obtain⟨c',h,rfl⟩:=Option.map_eq_some_iff.1 hc
  exact Mb j c' x h hx
theorem zZm{S:ASt}(h:Rel Pr φ S w){i:Nat}{cs:List AV}{t:TypeId}(ho:get2 S 0 i=some (.cells cs t)):∃Pr',Stp Pr φ w Pr' φ w/\Rel Pr' φ (set2 S 0 i .dead) w/\Fzn Pr' φ i cs:=by
 obtain⟨e,he,Va,g,xs,hg,ma,hl,hc,mb⟩:=h.obj 0 i _ ho
 have oa:Pr.le (fun b o=>if b=g then xs[o]? else Pr b o):=fun b o v hv=>by
  by_cases hb:b=g
  .subst hb;rw[mb]at hv;cases hv
  simp only[hb,if_false];exact hv
 have Ck:∀b,b≠g->∀o,Pr b o=none->(fun b o=>if b=g then xs[o]? else Pr b o) b o=none:=fun b hb o hv=>by simp only[hb,if_false];exact hv
 refine⟨fun b o=>if b=g then xs[o]? else Pr b o,⟨oa,Fle.refl φ,fun d i e g h k=>.inl ⟨d,i,e,h,k⟩,⟨rfl,rfl,rfl,Nat.le_refl _,fun _ _ _=>rfl⟩,rfl,fun b o h0 h1=>?_⟩,⟨fun d j o hj=>?_,h.dis,h.lt,fun b o v hv=>?_,?_,?_⟩,e,g,fun j=>xs.getD j undef,he,hg,fun j p hp=>?_,fun j p hp=>?_⟩
 .by_cases hb:b=g
  .subst hb;exact .inl ⟨0,i,e,he,hg⟩
  simp only[hb,if_false]at h1;exact absurd h0 h1
 .rw[zQ _ ho]at hj
  split at hj
  .rename_i hc
   obtain⟨rfl,rfl⟩:=hc
   cases hj;exact⟨e,he,trivial⟩
  rename_i hne
  obtain⟨e',k1,k2⟩:=h.obj d j o hj
  refine⟨e',k1,k2.keep oa (Fle.refl _) fun g' Gb=>⟨rfl,fun o' ya=>Ck g' (fun Oe=>hne ?_) o' ya⟩⟩
  subst Oe;exact h.dis d j e' 0 i e g' k1 he Gb hg
 .by_cases hb:b=g
  .subst hb
   simp only[if_true]at hv;rw[zBb ma];exact hv
  simp only[hb,if_false]at hv
  exact h.pr b o v hv
 .exact h.tb.of oa (fun _ _ _=>rfl) fun d i e g a b=>.inl ⟨d,i,e,a,b⟩
 .rw[zBR];exact h.shape
 .have hlt:j<xs.size:=by rw[<-hl];exact(List.getElem?_eq_some_iff.1 hp).1
  simp[Array.getD,hlt]
 have hlt:j<xs.size:=by rw[<-hl];exact(List.getElem?_eq_some_iff.1 hp).1
 have h2:=(hc j p xs[j] hp (Array.getElem?_eq_getElem hlt)).mono oa (Fle.refl φ)
 simpa [Array.getD,hlt]using h2
def FzOk(S:ASt):List (Nat × List AV × TypeId)->AV->Option AV
 | [],v=>some v
 |(i,cs,t)::l,v=>FzOk (set2 S 0 i .dead) l (v.fz i cs)
def zOu(S:ASt):List (Nat × List AV × TypeId)->Prop
 | []=>True
 |(i,cs,t)::l=>get2 S 0 i=some (.cells cs t)/\zOu (set2 S 0 i .dead) l
theorem zV7:∀(l:List (Nat × List AV × TypeId)) {Pr:Prot} {φ:Fi2} {S:ASt} {w:World} {v v':AV} {x:Value},Rel Pr φ S w->RA Pr φ v x->zOu S l->FzOk S l v=some v'->∃Pr' S',Stp Pr φ w Pr' φ w/\Rel Pr' φ S' w/\RA Pr' φ v' x/\S'.tail=S.tail
 | [],Pr,φ,S,w,v,v',x,hR,hx,_,h=>by cases h;exact⟨Pr,S,Stp.refl _ _ _,hR,hx,rfl⟩
 |(i,cs,t)::l,Pr,φ,S,w,v,v',x,hR,hx,⟨h1,h2⟩,h=>by
  obtain⟨Cb,s1,r1,f1⟩:=zZm hR h1
  obtain⟨pc,S2,s2,r2,x2,t2⟩:=zV7 l r1 ((hx.mono s1.pl s1.fl).fz f1) h2 h
  refine⟨pc,S2,s1.trans s2,r2,x2,t2.trans ?_⟩;unfold set2;cases S<;>rfl
def zXV(P:Program)(rs:List ResultVar)(l:List (Nat × List AV × TypeId))(r:AV)(S':ASt):Exit->List AV->ASt->Prop:=fun e fr S1=>
 (e= .normal\/e= .ret)/\∃vs,resA P fr S1 rs=some vs/\zOu S1 l/\((FzOk S1 l (retA vs)).bind (AV.down 1))=some r/\S1.tail=S'
theorem zUW(P:Program)(rs:List ResultVar)(l:List (Nat × List AV × TypeId))(r:AV)(e:Exit)(fr:List AV)(S S1:ASt):zXV P rs l r S e fr S1=((e= .normal\/e= .ret)/\∃vs,resA P fr S1 rs=some vs/\zOu S1 l/\((FzOk S1 l (retA vs)).bind (AV.down 1))=some r/\S1.tail=S):=by rw[zXV]
attribute [simp] zUW
theorem ADet.introFz{P:Program}{K:FuncId}{args:List AV}{S S':ASt}{r:AV}{fn:Func}{c:Code}(l:List (Nat × List AV × TypeId))(hm:P.follows .mixedOrders=true)(hK:∀xs w,(callFunc K xs).run P w= .ok (.enter K xs) w)(hf:P.funcs[K]? =some fn)(hb:fn.body=some c)
  (h:awp P c (AV.ups 1 args++List.replicate (fn.ntmps-args.length) .un) ([]::S) (zXV P fn.results.toList l r S')):ADet P K args S r S':=by
 refine⟨hK,fun Pr φ xs w da hR hne=>?_⟩
 refine calls_of_wp hf hb ?_
 have nb:RF Pr ([]::φ) (AV.ups 1 args++List.replicate (fn.ntmps-args.length) .un) {tmps:=xs++Array.replicate (fn.ntmps-xs.size) undef,defers:=[]}:=by
  refine⟨by simp[zAK,da.1],fun t v x hv hx=>?_⟩
  rcases Nat.lt_or_ge t args.length with ht|ht
  .rw[List.getElem?_append_left (by rw[zAK];exact ht),zBt]at hv
   obtain⟨v0,h0,rfl⟩:=Option.map_eq_some_iff.1 hv
   simp only at hx;rw[Array.getElem?_append_left (by rw[<-da.1];exact ht)]at hx
   exact RA.up (k:=1) (da.2 t v0 x h0 hx)
  rw[List.getElem?_append_right (by rw[zAK];exact ht)]at hv
  simp only at hx;rw[Array.getElem?_append_right (by rw[<-da.1];exact ht)]at hx
  rw[List.getElem?_replicate]at hv;rw[Array.getElem?_replicate]at hx;split at hv
  .split at hx
   .cases hv;cases hx;exact .un
   cases hx
  cases hv
 refine wp_mono (zCx hm c _ Pr ([]::φ) _ _ ([]::S) w nb (zCS hR) (by simp) h) fun e a' w' hp=>?_
 obtain⟨ja,S1,Pr',φ',⟨he,vs,h1,h2,Us,h3⟩,h4,h5,h6,h7⟩:=hp
 obtain⟨x,hx,ta⟩:=zB3 (P:=P) (fn:=fn) h4 h5 h1
 obtain⟨v2,Ws,bm⟩:=Option.bind_eq_some_iff.1 Us
 obtain⟨pc,S2,s2,r2,x2,t2⟩:=zV7 l h5 hx h2 Ws
 have Sq:=h6.trans s2
 have Db:φ'≠ []:=zL Sq (by simp)
 obtain⟨l',φ1,rfl⟩:=List.exists_cons_of_ne_nil Db
 have tc:S2≠ []:=fun h0=>by have:=r2.shape;rw[h0]at this;simp at this
 obtain⟨L',S3,rfl⟩:=List.exists_cons_of_ne_nil tc
 rw[<-t2]at h3;simp only[List.tail_cons]at h3;subst h3
 have key:a'.defers=[]/\∃v,(results fn a'.tmps).run P w'= .ok v w'/\∃x Pr' φ',Ending.returned v= .returned x/\Stp Pr φ w Pr' φ' w'/\Rel Pr' φ' S3 w'/\RA Pr' φ' r x:=
  ⟨h7,x,ta,x,pc,φ1,rfl,zCq Sq,zB9 r2,x2.down r bm⟩
 rcases he with rfl|rfl
 .exact key
 exact key
mutual
def AV.mrg(n:Nat):AV->AV
 | .ptr 0 i o=>.ptr 0 (n+i) o
 | .ptr 1 i o=>.ptr 0 i o
 | .ptr (d+2) i o=>.ptr (d+1) i o
 | .mp 0 i=>.mp 0 (n+i)
 | .mp 1 i=>.mp 0 i
 | .mp (d+2) i=>.mp (d+1) i
 | .asl 0 i m k=>.asl 0 (n+i) m k
 | .asl 1 i m k=>.asl 0 i m k
 | .asl (d+2) i m k=>.asl (d+1) i m k
 | .rsl 0 i m k=>.rsl 0 (n+i) m k
 | .rsl 1 i m k=>.rsl 0 i m k
 | .rsl (d+2) i m k=>.rsl (d+1) i m k
 | .rptr 0 i m o=>.rptr 0 (n+i) m o
 | .rptr 1 i m o=>.rptr 0 i m o
 | .rptr (d+2) i m o=>.rptr (d+1) i m o
 | .osl k rows 0 i=>.osl k rows 0 (n+i)
 | .osl k rows 1 i=>.osl k rows 0 i
 | .osl k rows (d+2) i=>.osl k rows (d+1) i
 | .agg cs=>.agg (AV.mrgs n cs)
 | .tup cs=>.tup (AV.mrgs n cs)
 | .fn f a b=>.fn f (AV.mrgs n a) (AV.mrgs n b)
 | .bx cs=>.bx (AV.mrgs n cs)
 | .any=>.any
 | .un=>.un
 | .bl=>.bl
 | .p q=>.p q
 | .rp cs=>.rp cs
def AV.mrgs(n:Nat):List AV->List AV
 | []=>[]
 |c::cs=>c.mrg n::AV.mrgs n cs
end
theorem zG9(n:Nat):∀cs:List AV,AV.mrgs n cs=cs.map (AV.mrg n)
 | []=>rfl
 |c::cs=>by simp[AV.mrgs,zG9 n cs]
theorem zDQ(n:Nat)(cs:List AV)(j:Nat):(AV.mrgs n cs)[j]? =(cs[j]?).map (AV.mrg n):=by rw[zG9,List.getElem?_map]
theorem zE1(n:Nat)(cs:List AV):(AV.mrgs n cs).length=cs.length:=by rw[zG9,List.length_map]
def mrgD:Nat->Nat
 |0=>0
 |d+1=>d
def mrgI(n:Nat):Nat->Nat->Nat
 |0,i=>n+i
 |_+1,i=>i
theorem zCj{α:Type}{l1 l:List α}{φ:List (List α)}{d i:Nat}{e:α}(h:get2 (l1::l::φ) d i=some e):get2 ((l++l1)::φ) (mrgD d) (mrgI l.length d i)=some e:=by
 match d,h with
 |0,h=>
  have h':l1[i]? =some e:=h
  show(l++l1)[l.length+i]? =some e
  rw[List.getElem?_append_right (by omega),Nat.add_sub_cancel_left];exact h'
 |1,h=>
  have h':l[i]? =some e:=h
  show(l++l1)[i]? =some e
  rw[List.getElem?_append_left (List.getElem?_eq_some_iff.1 h').1];exact h'
 |d+2,h=>exact h
theorem zCN{α:Type}{l1 l:List α}{φ:List (List α)}{d i:Nat}{e:α}(h:get2 ((l++l1)::φ) d i=some e):∃d' i',get2 (l1::l::φ) d' i'=some e/\mrgD d'=d/\mrgI l.length d' i'=i:=by
 match d,h with
 |0,h=>
  have h':(l++l1)[i]? =some e:=h
  rcases Nat.lt_or_ge i l.length with hi|hi
  .rw[List.getElem?_append_left hi]at h'
   exact⟨1,i,h',rfl,rfl⟩
  rw[List.getElem?_append_right hi]at h'
  exact⟨0,i-l.length,h',rfl,by show l.length+(i-l.length)=i;omega⟩
 |d+1,h=>exact⟨d+2,i,h,rfl,rfl⟩
theorem RA.mrg{l1 l:List Ent}{v:AV}{x:Value}(h:RA Pr (l1::l::φ) v x):RA Pr ((l++l1)::φ) (v.mrg l.length) x:=by
 induction h with
 |any x=>exact .any x
 |un=>exact .un
 |bl b=>exact .bl b
 |p h=>exact .p h
 | @ptr d i o g e h1 h2 h3=>
  have:=zCj h1
  match d,this with
  |0,this=>exact .ptr this h2 h3
  |1,this=>exact .ptr this h2 h3
  |d+2,this=>exact .ptr this h2 h3
 | @mp d i g e h1 h2 h3=>
  have:=zCj h1
  match d,this with
  |0,this=>exact .mp this h2 h3
  |1,this=>exact .mp this h2 h3
  |d+2,this=>exact .mp this h2 h3
 | @asl d i n k g e h1 h2 h3 h4=>
  have:=zCj h1
  match d,this with
  |0,this=>exact .asl this h2 h3 h4
  |1,this=>exact .asl this h2 h3 h4
  |d+2,this=>exact .asl this h2 h3 h4
 | @rnil d i e h1 h2 h3=>
  have:=zCj h1
  match d,this with
  |0,this=>exact .rnil this h2 h3
  |1,this=>exact .rnil this h2 h3
  |d+2,this=>exact .rnil this h2 h3
 | @rsl d i n g cap e h1 h2 h3 h4 h5 h6 h7=>
  have:=zCj h1
  match d,this with
  |0,this=>exact .rsl this h2 h3 h4 h5 h6 h7
  |1,this=>exact .rsl this h2 h3 h4 h5 h6 h7
  |d+2,this=>exact .rsl this h2 h3 h4 h5 h6 h7
 | @rptr d i n o g e h1 h2 h3 h4=>
  have:=zCj h1
  match d,this with
  |0,this=>exact .rptr this h2 h3 h4
  |1,this=>exact .rptr this h2 h3 h4
  |d+2,this=>exact .rptr this h2 h3 h4
 |rp vs h1 h2=>exact .rp vs h1 h2
 |bx vs h1 _ ih=>
  refine .bx vs (fun j c hc=>?_) (fun j c hc=>?_)
  .rw[zDQ]at hc
   obtain⟨c',h,rfl⟩:=Option.map_eq_some_iff.1 hc
   exact h1 j c' h
  rw[zDQ]at hc
  obtain⟨c',h,rfl⟩:=Option.map_eq_some_iff.1 hc
  exact ih j c' h
 | @onil d i e h1 h2 h3=>
  have:=zCj h1
  match d,this with
  |0,this=>exact .onil this h2 h3
  |1,this=>exact .onil this h2 h3
  |d+2,this=>exact .onil this h2 h3
 | @osl rows d i g cap e vs h1 h2 h3 h4 h5 h6 h7 h8 h9 h10=>
  have:=zCj h1
  match d,this with
  |0,this=>exact .osl vs this h2 h3 h4 h5 h6 h7 h8 h9 h10
  |1,this=>exact .osl vs this h2 h3 h4 h5 h6 h7 h8 h9 h10
  |d+2,this=>exact .osl vs this h2 h3 h4 h5 h6 h7 h8 h9 h10
 |agg h1 _ ih=>
  refine .agg (by rw[zE1];exact h1) fun j c x hc hx=>?_
  rw[zDQ]at hc
  obtain⟨c',h,rfl⟩:=Option.map_eq_some_iff.1 hc
  exact ih j c' x h hx
 |tup h1 _ ih=>
  refine .tup (by rw[zE1];exact h1) fun j c x hc hx=>?_
  rw[zDQ]at hc
  obtain⟨c',h,rfl⟩:=Option.map_eq_some_iff.1 hc
  exact ih j c' x h hx
 |fn h1 h2 _ _ Ub Mb=>
  refine .fn (by rw[zE1];exact h1) (by rw[zE1];exact h2) (fun j c x hc hx=>?_) (fun j c x hc hx=>?_)
  .rw[zDQ]at hc
   obtain⟨c',h,rfl⟩:=Option.map_eq_some_iff.1 hc
   exact Ub j c' x h hx
  rw[zDQ]at hc
  obtain⟨c',h,rfl⟩:=Option.map_eq_some_iff.1 hc
  exact Mb j c' x h hx
def AObj.mrg(n:Nat):AObj->AObj
 | .cells cs t=>.cells (AV.mrgs n cs) t
 | .tok e k m=>.tok e k m
 | .row e k m cs=>.row e k m (AV.mrgs n cs)
 | .map es=>.map (es.map fun kv=>(kv.1,kv.2.mrg n))
 | .dead=>.dead
 | .raw _ _ _ _=>.dead
theorem RelO.mrg{l1 l:List Ent}{o:AObj}{e:Ent}(h:RelO Pr (l1::l::φ) w o e):RelO Pr ((l++l1)::φ) w (o.mrg l.length) e:=by
 cases o with
 |dead=>trivial
 |raw=>trivial
 |tok=>exact h
 |cells cs t=>
  obtain⟨h0,g,xs,h1,h2,h3,h4,h5⟩:=h
  refine⟨h0,g,xs,h1,h2,by rw[zE1];exact h3,fun j c x a b=>?_,h5⟩
  rw[zDQ]at a
  obtain⟨c',h,rfl⟩:=Option.map_eq_some_iff.1 a
  exact(h4 j c' x h b).mrg
 |row E k n cs=>
  obtain⟨h0,h1,h2,h3,h5,h4⟩:=h
  refine⟨h0,h1,h2,h3,by rw[zE1];exact h5,h4.imp id ?_⟩
  rintro⟨g,xs,a,b,c,d,e1,f,q,i⟩
  refine⟨g,xs,a,b,c,d,e1,f,fun j c x u v=>?_,i⟩
  rw[zDQ]at u
  obtain⟨c',h,rfl⟩:=Option.map_eq_some_iff.1 u
  exact(q j c' x h v).mrg
 |map es=>
  obtain⟨h0,g,ents,Ba,h1,h2,h3,h4,h5,h6⟩:=h
  refine⟨h0,g,ents,Ba,h1,h2,by simpa using h3,fun j kv en a b=>?_,h5,h6⟩
  rw[List.getElem?_map]at a
  obtain⟨kg,h,rfl⟩:=Option.map_eq_some_iff.1 a
  exact⟨(h4 j kg en h b).1,(h4 j kg en h b).2.mrg⟩
theorem zMP(l l1:List Ent)(φ:Fi2):Fle (l::φ) ((l++l1)::φ):=fun d i e h=>⟨e,by
 cases d with
 |zero=>
  have h':l[i]? =some e:=h
  show(l++l1)[i]? =some e
  rw[List.getElem?_append_left (List.getElem?_eq_some_iff.1 h').1];exact h'
 |succ d=>exact h,e.le_refl⟩
theorem zRT{l1 l:List Ent}{L1 L:List AObj}{R:ASt}(h:Rel Pr (l1::l::φ) (L1::L::R) w):Rel Pr ((l++l1)::φ) ((L++L1.map (AObj.mrg L.length))::R) w:=by
 have hs:=h.shape
 simp only[List.map_cons,List.cons.injEq]at hs
 obtain⟨ab,hl,Xs⟩:=hs
 refine⟨fun d i o ho=>?_,fun d i e d' i' e' g a b c f=>?_,fun d i e g a b=>?_,h.pr,fun g cs hm=>?_,?_⟩
 .cases d with
  |succ d=>
   obtain⟨e,k1,k2⟩:=h.obj (d+2) i o ho
   exact⟨e,k1,k2⟩
  |zero=>
   have ya:(L++L1.map (AObj.mrg L.length))[i]? =some o:=ho
   rcases Nat.lt_or_ge i L.length with hi|hi
   .rw[List.getElem?_append_left hi]at ya
    obtain⟨e,k1,k2⟩:=h.obj 1 i o ya
    refine⟨e,zCj k1,RelO.keep (φ:=l::φ) k2 (Prot.le_refl _) (zMP l l1 φ) fun g _=>⟨rfl,fun _ h=>h⟩⟩
   rw[List.getElem?_append_right hi,List.getElem?_map]at ya
   obtain⟨o0,h0,rfl⟩:=Option.map_eq_some_iff.1 ya
   obtain⟨e,k1,k2⟩:=h.obj 0 (i-L.length) o0 h0
   refine⟨e,?_,?_⟩
   .have:=zCj k1
    rw[show mrgI l.length 0 (i-L.length)=i by show l.length+(i-L.length)=i;omega]at this
    exact this
   have k3:=RelO.mrg (l1:=l1) (l:=l) (φ:=φ) k2
   rw[hl]at k3;exact k3
 .obtain⟨d1,i1,a1,a2,a3⟩:=zCN a
  obtain⟨d2,i2,b1,b2,b3⟩:=zCN b
  obtain⟨rfl,rfl⟩:=h.dis _ _ _ _ _ _ g a1 b1 c f
  exact⟨a2.symm.trans b2,a3.symm.trans b3⟩
 .obtain⟨d1,i1,a1,a2,a3⟩:=zCN a
  exact h.lt _ _ _ g a1 b
 .obtain⟨t1,t2,t3,t4⟩:=h.tb g cs hm
  exact⟨t1,t2,t3,fun d i e a=>by
   obtain⟨d1,i1,a1,_,_⟩:=zCN a
   exact t4 _ _ _ a1⟩
 simp[hl,ab,Xs]
def zRU(P:Program)(rs:List ResultVar)(r:AV)(S':ASt):Exit->List AV->ASt->Prop:=fun e fr S1=>
 (e= .normal\/e= .ret)/\∃vs,resA P fr S1 rs=some vs/\∃L1 L R,S1=L1::L::R/\(retA vs).mrg L.length=r/\(L++L1.map (AObj.mrg L.length))::R=S'
theorem zBU(P:Program)(rs:List ResultVar)(r:AV)(e:Exit)(fr:List AV)(L1 L:List AObj)(R S':ASt):zRU P rs r S' e fr (L1::L::R)=((e= .normal\/e= .ret)/\∃vs,resA P fr (L1::L::R) rs=some vs/\(retA vs).mrg L.length=r/\(L++L1.map (AObj.mrg L.length))::R=S'):=by
 unfold zRU
 apply propext
 constructor
 .rintro⟨h,vs,h1,Ys,L',R',h2,h3,h4⟩
  cases h2;exact⟨h,vs,h1,h3,h4⟩
 rintro⟨h,vs,h1,h3,h4⟩
 exact⟨h,vs,h1,_,_,_,rfl,h3,h4⟩
attribute [simp] zBU
theorem ADet.merge{P:Program}{K:FuncId}{args:List AV}{S S':ASt}{r:AV}{fn:Func}{c:Code}(hm:P.follows .mixedOrders=true)(hK:∀xs w,(callFunc K xs).run P w= .ok (.enter K xs) w)(hf:P.funcs[K]? =some fn)(hb:fn.body=some c)
  (h:awp P c (AV.ups 1 args++List.replicate (fn.ntmps-args.length) .un) ([]::S) (zRU P fn.results.toList r S')):ADet P K args S r S':=by
 refine⟨hK,fun Pr φ xs w da hR hne=>?_⟩
 refine calls_of_wp hf hb ?_
 have nb:RF Pr ([]::φ) (AV.ups 1 args++List.replicate (fn.ntmps-args.length) .un) {tmps:=xs++Array.replicate (fn.ntmps-xs.size) undef,defers:=[]}:=by
  refine⟨by simp[zAK,da.1],fun t v x hv hx=>?_⟩
  rcases Nat.lt_or_ge t args.length with ht|ht
  .rw[List.getElem?_append_left (by rw[zAK];exact ht),zBt]at hv
   obtain⟨v0,h0,rfl⟩:=Option.map_eq_some_iff.1 hv
   simp only at hx;rw[Array.getElem?_append_left (by rw[<-da.1];exact ht)]at hx
   exact RA.up (k:=1) (da.2 t v0 x h0 hx)
  rw[List.getElem?_append_right (by rw[zAK];exact ht)]at hv
  simp only at hx;rw[Array.getElem?_append_right (by rw[<-da.1];exact ht)]at hx
  rw[List.getElem?_replicate]at hv;rw[Array.getElem?_replicate]at hx;split at hv
  .split at hx
   .cases hv;cases hx;exact .un
   cases hx
  cases hv
 refine wp_mono (zCx hm c _ Pr ([]::φ) _ _ ([]::S) w nb (zCS hR) (by simp) h) fun e a' w' hp=>?_
 obtain⟨ja,S1,Pr',φ',⟨he,vs,h1,L1,L,R,rfl,h2,h3⟩,h4,h5,h6,h7⟩:=hp
 obtain⟨x,hx,ta⟩:=zB3 (P:=P) (fn:=fn) h4 h5 h1
 have Db:φ'≠ []:=zL h6 (by simp)
 obtain⟨l1,φ0,rfl⟩:=List.exists_cons_of_ne_nil Db
 have be:=zCq h6
 have Dk:φ0≠ []:=fun h0=>by have:=h5.shape;rw[h0]at this;simp at this
 obtain⟨l,φ1,rfl⟩:=List.exists_cons_of_ne_nil Dk
 have ca:l.length=L.length:=by have:=h5.shape;simp at this;exact this.2.1
 have hF:=zMP l l1 φ1
 have wo:Stp Pr φ w Pr' ((l++l1)::φ1) w':=by
  refine⟨be.pl,be.fl.trans hF,fun d i e g a b=>?_,be.fr,?_,be.pn⟩
  .obtain⟨d1,i1,a1,_,_⟩:=zCN a
   rcases h6.fresh _ _ _ g a1 b with⟨d0,i0,e1,k1,k2⟩|k1
   .cases d0 with
    |zero=>simp[get2]at k1
    |succ d0=>exact .inl ⟨d0,i0,e1,k1,k2⟩
   exact .inr k1
  have:=be.len;simpa using this
 have ce:=hx.mrg
 rw[ca,h2]at ce
 have cm:=zRT h5
 rw[h3]at cm
 have key:a'.defers=[]/\∃v,(results fn a'.tmps).run P w'= .ok v w'/\∃x Pr' φ',Ending.returned v= .returned x/\Stp Pr φ w Pr' φ' w'/\Rel Pr' φ' S' w'/\RA Pr' φ' r x:=
  ⟨h7,x,ta,x,Pr',_,rfl,wo,cm,ce⟩
 rcases he with rfl|rfl
 .exact key
 exact key
def rowC{α:Type}(enc:α->List PV)(l:List α):List AV:=(l.map fun x=>(enc x).map AV.p).flatten
theorem zRV{α:Type}(enc:α->List PV)(l:List α){q:Nat}(h:q<l.length):rowC enc (l.take (q+1))=rowC enc (l.take q)++(enc l[q]).map AV.p:=by
 unfold rowC;rw[List.take_add_one,List.map_append,List.flatten_append,List.getElem?_eq_getElem h];simp
theorem zV8{α:Type}{enc:α->List PV}{l:List α}:∀c∈rowC enc l,∃q,c= .p q:=fun c hc=>by
 obtain⟨cs,h1,h2⟩:=List.mem_flatten.1 hc
 obtain⟨x,_,rfl⟩:=List.mem_map.1 h1
 obtain⟨q,_,rfl⟩:=List.mem_map.1 h2
 exact⟨q,rfl⟩
theorem zJ1{α:Type}(enc:α->List PV)(l:List α)(n:Nat):AV.cuts n (rowC enc l)=rowC enc l:=by
 rw[zDs]
 conv=>rhs;rw[<-List.map_id (rowC enc l)]
 exact List.map_congr_left fun c hc=>by obtain⟨q,rfl⟩:=zV8 c hc;rfl
theorem zHA{α:Type}(enc:α->List PV)(l:List α)(n:Nat):AV.mrgs n (rowC enc l)=rowC enc l:=by
 rw[zG9]
 conv=>rhs;rw[<-List.map_id (rowC enc l)]
 exact List.map_congr_left fun c hc=>by obtain⟨q,rfl⟩:=zV8 c hc;rfl
end Go.Proofs.YtdflkegnmmkkoaaGreatDoor
