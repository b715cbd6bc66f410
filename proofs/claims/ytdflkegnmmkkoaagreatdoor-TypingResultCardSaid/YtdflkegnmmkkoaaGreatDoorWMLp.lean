/- A part of the proof. -/
import Derived.Test.YtdflkegnmmkkoaaGreatDoorWMLd
import Derived.Recover
set_option linter.unusedVariables false
set_option linter.unusedSimpArgs false
set_option maxRecDepth 100000
set_option maxHeartbeats 32000000
namespace Go.Proofs.YtdflkegnmmkkoaaGreatDoor
open Go.RowKit
def zDA(v:Value):List PanicEntry:=[{v,recovered:=false}]
inductive ARes where
 |ret (r:AV)|thr (v:Value)
def ARes.fits(Pr:Prot)(φ:Fi2):ARes->Ending->Prop
 | .ret r,e=>∃x,e= .returned x/\RA Pr φ r x
 | .thr v,e=>e= .panicked (zDA v)
def zK(P:Program)(K:FuncId)(args:List AV)(S:ASt)(fc:ARes)(S':ASt):Prop:=
 (∀xs w,(callFunc K xs).run P w= .ok (.enter K xs) w)/\∀Pr φ (xs:Array Value) w,RL Pr φ args xs->Rel Pr φ S w->φ≠ []->
  Calls P K xs w fun e w'=>∃Pr' φ',fc.fits Pr' φ' e/\Stp Pr φ w Pr' φ' w'/\Rel Pr' φ' S' w'
section
variable{P:Program}{K:FuncId}{args:List AV}{S S':ASt}
theorem ADet.call{r:AV}(h:ADet P K args S r S'):zK P K args S (.ret r) S':=
 ⟨h.1,fun Pr φ xs w h1 h2 h3=>(h.2 Pr φ xs w h1 h2 h3).mono fun e w' he=>by
  obtain⟨x,Pr',φ',rfl,s1,s2,s3⟩:=he
  exact⟨Pr',φ',⟨x,rfl,s3⟩,s1,s2⟩⟩
theorem zK.det{r:AV}(h:zK P K args S (.ret r) S'):ADet P K args S r S':=
 ⟨h.1,fun Pr φ xs w h1 h2 h3=>(h.2 Pr φ xs w h1 h2 h3).mono fun e w' he=>by
  obtain⟨Pr',φ',⟨x,rfl,s3⟩,s1,s2⟩:=he
  exact⟨x,Pr',φ',rfl,s1,s2,s3⟩⟩
theorem zLH{Pr:Prot}{φ:Fi2}{o:Oper}{fr:List AV}{a:Act}{w:World}{v:Value}(h:RF Pr φ fr a)(hR:Rel Pr φ S w)(hne:φ≠ [])(hc:zCl o fr=some (K,args))(hd:zK P K args S (.thr v) S'){next:Act->World->Prop}{Q:Exit->Act->World->Prop}
  (hk:∀w' Pr' φ',Stp Pr φ w Pr' φ' w'->Rel Pr' φ' S' w'->Q (.panic (zDA v)) a w'):o.wp P a w next Q:=by
 unfold zCl at hc;split at hc
 .rename_i c ho
  split at hc
  .rename_i f hf
   split at hc
   .rename_i K' fsts caps he
    cases hc
    obtain⟨hK,hd⟩:=hd
    have qg:=h.ev f
    rw[he]at qg
    generalize hy:a.eval f=y at qg
    cases qg with
    | @fn _ _ _ xs ys l1 l2 c1 c2=>
     have da:RL Pr φ (fsts++(c.args.toList.map (evA fr)++caps)) (xs++(c.args.map a.eval++ys)):=by
      refine RL.append ⟨l1,c1⟩ (RL.append ⟨by simp,fun j q x hq hx=>?_⟩ ⟨l2,c2⟩)
      rw[List.getElem?_map]at hq
      obtain⟨q0,h0,rfl⟩:=Option.map_eq_some_iff.1 hq
      have ga:c.args[j]? =some q0:=by simpa using h0
      rw[Array.getElem?_map,ga]at hx;cases hx;exact h.ev _
     have ta:(execOp a.eval o).run P w= .ok (.enter K (xs++(c.args.map a.eval++ys))) w:=by
      simp[execOp,ho,resolve,hf,hy,Deferred.ofValue,invoke,hK,Array.append_assoc]
     simp only[Oper.wp,ta,Oper.upon];refine(hd Pr φ _ w da hR hne).mono fun e w' he=>?_
     obtain⟨Pr',φ',hf,s1,s2⟩:=he
     cases hf;exact hk w' Pr' φ' s1 s2
   cases hc
  cases hc
 cases hc
end
def zCV(o:Oper)(fr:List AV):Option Value:=
 match o.op with
 | .panic x=>
  match evA fr x with
  | .p (.v (.iface t v))=>some (.iface t v)
  |_=>none
 |_=>none
theorem zRW{P:Program}{Pr:Prot}{φ:Fi2}{o:Oper}{fr:List AV}{a:Act}{w:World}{v:Value}(h:RF Pr φ fr a)(hp:zCV o fr=some v){next:Act->World->Prop}{Q:Exit->Act->World->Prop}(hk:Q (.panic (zDA v)) a w):o.wp P a w next Q:=by
 unfold zCV at hp;split at hp
 .rename_i x hop
  split at hp
  .rename_i t u he
   cases hp
   have hy:=zT (h.ev x) (by rw[he];rfl)
   have ta:(execOp a.eval o).run P w= .halt (.panic (.iface t u)) w:=by
    simp[execOp,hop,hy,Instr.panic]
   simp only[Oper.wp,ta,Oper.upon];exact hk
  cases hp
 cases hp
def zBI(P:Program)(ops:Array Oper):List Oper->List AV->ASt->(Exit->List AV->ASt->Prop)->Prop
 | [],fr,S,Q=>Q .normal fr S
 |o::os,fr,S,Q=>
  match zBk ops o fr with
  |some true=>
   match zCV o fr with
   |some v=>Q (.panic (zDA v)) fr S
   |none=>
    match zCl o fr with
    |some (F,args)=>∃fc S',zK P F args S fc S'/\match fc with
     | .ret r=>zBI P ops os (putA fr o.dst r) S' Q
     | .thr v=>Q (.panic (zDA v)) fr S'
    |none=>
     match zDu P o fr S with
     |some (v,S')=>zBI P ops os (putA fr o.dst v) S' Q
     |none=>False
  |some false=>zBI P ops os (putA fr o.dst .un) S Q
  |none=>False
theorem zFW{P:Program}{ops:Array Oper}{Q:Exit->List AV->ASt->Prop}{Pr0:Prot}{φ0:Fi2}{a0:Act}{w0:World}:∀(os:List Oper) (i:Nat),ops.toList.drop i=os->∀(Pr:Prot) (φ:Fi2) (fr:List AV) (a:Act) (S:ASt) (w:World),RF Pr φ fr a->Rel Pr φ S w->φ≠ []->Stp Pr0 φ0 w0 Pr φ w->a.defers=a0.defers->zBI P ops os fr S Q->
  wpOps P ops (Post Pr0 φ0 a0 w0 Q) (List.range' i os.length) a w
 | [],i,hi,Pr,φ,fr,a,S,w,h,hR,hne,Nd,hd0,hk=>⟨fr,S,Pr,φ,hk,h,hR,Nd,hd0⟩
 |o::os,i,hi,Pr,φ,fr,a,S,w,h,hR,hne,Nd,hd0,hk=>by
  have ho:ops[i]? =some o:=by
   have:(ops.toList.drop i)[0]? =some o:=by rw[hi];rfl
   rw[List.getElem?_drop]at this
   simpa using this
  have Qd:ops.toList.drop (i+1)=os:=by rw[<-List.drop_drop,hi];rfl
  simp only[List.length_cons,List.range'_succ];rw[wpOps_cons];unfold wpOp;rw[ho];simp only[zBI]at hk
  have step:∀{v:AV} {S':ASt},Stepped P o fr S v S'->zBI P ops os (putA fr o.dst v) S' Q->o.wp P a w (wpOps P ops (Post Pr0 φ0 a0 w0 Q) (List.range' (i+1) os.length)) (Post Pr0 φ0 a0 w0 Q):=fun hs Fa=>
   zAn h hR hne hs fun x w' Pr' φ' s1 s2 s3=>zFW os (i+1) Qd Pr' φ' _ _ _ w' ((h.mono s1.pl s1.fl).put o.dst s3) s2 (zL s1 hne) (Nd.trans s1) ((zAT _ _ _).trans hd0) Fa
  split at hk
  .rename_i hw
   simp only[zBP h hw,if_true];refine .inl ?_;split at hk
   .rename_i v hp
    exact zRW h hp ⟨fr,S,Pr,φ,hk,h,hR,Nd,hd0⟩
   split at hk
   .rename_i F args hc
    obtain⟨fc,S',h1,h2⟩:=hk
    cases fc with
    |ret r=>exact step (zDv hc h1.det) h2
    |thr v=>exact zLH h hR hne hc h1 fun w' Pr' φ' s1 s2=>⟨fr,S',Pr',φ',h2,h.mono s1.pl s1.fl,s2,Nd.trans s1,hd0⟩
   split at hk
   .rename_i v S' hs
    exact step (zG5 hs) hk
   exact hk.elim
  .rename_i hw
   simp only[zBP h hw,Bool.false_eq_true,if_false];exact zFW os (i+1) Qd Pr φ _ _ S w (h.put o.dst (Pr:=Pr) (φ:=φ) (v:=.un) (x:=undef) .un) hR hne Nd ((zAT _ _ _).trans hd0) hk
  exact hk.elim
def zBV(P:Program):Code->List AV->ASt->(Exit->List AV->ASt->Prop)->Prop
 | .skip,fr,S,Q=>Q .normal fr S
 | .region _ ops rb,fr,S,Q=>if rb=true then zDw P ops fr S Q else zBI P ops ops.toList fr S Q
 | .seq a b,fr,S,Q=>zBV P a fr S fun e fr S=>
  match e with
  | .normal=>zBV P b fr S Q
  |e=>Q e fr S
 | .cond c t e,fr,S,Q=>
  match evA fr c with
  | .p (.v (.bool b))=>if b=true then zBV P t fr S Q else zBV P e fr S Q
  |_=>False
 | .block id body,fr,S,Q=>zBV P body fr S fun e fr S=>
  match e with
  | .exit j=>if j=id then Q .normal fr S else Q (.exit j) fr S
  |e=>Q e fr S
 | .loop body,fr,S,Q=>zWm (zBV P body) fr S Q
 | .exit id,fr,S,Q=>Q (.exit id) fr S
 | .label _,fr,S,Q=>Q .normal fr S
 | .ret,fr,S,Q=>Q .ret fr S
 |_,_,_,_=>False
theorem zC1{P:Program}(hm:P.follows .mixedOrders=true):∀(c:Code) (Q:Exit->List AV->ASt->Prop) (Pr:Prot) (φ:Fi2) (fr:List AV) (a:Act) (S:ASt) (w:World),RF Pr φ fr a->Rel Pr φ S w->φ≠ []->zBV P c fr S Q->c.wp P (Post Pr φ a w Q) a w
 | .skip,Q,Pr,φ,fr,a,S,w,h,hR,hne,hk=>wp_skip ⟨fr,S,Pr,φ,hk,h,hR,Stp.refl _ _ _,rfl⟩
 | .label l,Q,Pr,φ,fr,a,S,w,h,hR,hne,hk=>wp_label ⟨fr,S,Pr,φ,hk,h,hR,Stp.refl _ _ _,rfl⟩
 | .exit id,Q,Pr,φ,fr,a,S,w,h,hR,hne,hk=>wp_exit ⟨fr,S,Pr,φ,hk,h,hR,Stp.refl _ _ _,rfl⟩
 | .ret,Q,Pr,φ,fr,a,S,w,h,hR,hne,hk=>wp_ret ⟨fr,S,Pr,φ,hk,h,hR,Stp.refl _ _ _,rfl⟩
 | .region id ops rb,Q,Pr,φ,fr,a,S,w,h,hR,hne,hk=>by
  cases rb with
  |true=>
   have Qb:zDw P ops fr S Q:=hk
   obtain⟨s1,r1⟩:=zG4 hR (w.drawn+1)
   exact wp_region_any hm (Qb Pr φ a w Pr φ a _ h r1 hne s1 rfl)
  |false=>
   have Qb:zBI P ops ops.toList fr S Q:=hk
   refine wp_region ?_
   have:=zFW (Q:=Q) ops.toList 0 rfl Pr φ fr a S w h hR hne (Stp.refl _ _ _) rfl Qb
   rwa [List.range_eq_range',<-Array.length_toList]
 | .seq x y,Q,Pr,φ,fr,a,S,w,h,hR,hne,hk=>by
  refine wp_seq (wp_mono (zC1 hm x _ Pr φ fr a S w h hR hne hk) fun e a' w' hp=>?_)
  obtain⟨ja,S',Pr',φ',h1,h2,h3,h4,h5⟩:=hp
  cases e with
  |normal=>exact wp_mono (zC1 hm y Q Pr' φ' ja a' S' w' h2 h3 (zL h4 hne) h1) fun e Xg Yg hp=>Post.trans h4 h5 e Xg Yg hp
  |_=>exact⟨ja,S',Pr',φ',h1,h2,h3,h4,h5⟩
 | .cond c t e,Q,Pr,φ,fr,a,S,w,h,hR,hne,hk=>by
  simp only[zBV]at hk;split at hk
  .rename_i b hb
   have hc:=zT (h.ev c) (by rw[hb];rfl)
   refine wp_cond hc ?_
   cases b with
   |true=>exact zC1 hm t Q Pr φ fr a S w h hR hne hk
   |false=>exact zC1 hm e Q Pr φ fr a S w h hR hne hk
  exact hk.elim
 | .block id body,Q,Pr,φ,fr,a,S,w,h,hR,hne,hk=>by
  refine wp_block (wp_mono (zC1 hm body _ Pr φ fr a S w h hR hne hk) fun e a' w' hp=>?_)
  obtain⟨ja,S',Pr',φ',h1,h2,h3,h4,h5⟩:=hp
  cases e with
  |exit j=>
   simp only[Exit.inBlock];simp only at h1;split
   .rename_i hj
    rw[if_pos hj]at h1;exact⟨ja,S',Pr',φ',h1,h2,h3,h4,h5⟩
   rename_i hj
   rw[if_neg hj]at h1
   exact⟨ja,S',Pr',φ',h1,h2,h3,h4,h5⟩
  |_=>exact⟨ja,S',Pr',φ',h1,h2,h3,h4,h5⟩
 | .loop body,Q,Pr,φ,fr,a,S,w,h,hR,hne,hk=>by
  obtain⟨α,I,F,G,μ,a0,n,hI,hw,hn,hb⟩:=hk
  obtain⟨φs,s0,Tb,Df,pa⟩:=hw Pr φ a w h hR hne
  have hn2:top φs=top (G a0):=zBu Df.shape
  refine wp_loop_ghost (fun k a1 w1=>∃m Cb φ1,I m/\μ m=k/\RF Cb φ1 (F m) a1/\Rel Cb φ1 (G m) w1/\Stp Pr φ w Cb φ1 w1/\a1.defers=a.defers) (μ a0) ⟨a0,Pr,φs,hI,rfl,Tb,Df,s0,rfl⟩ ?_
  rintro k a1 w1 ⟨m,Cb,φ1,Kh,rfl,hf,hr,hs,hd⟩
  refine wp_mono (zC1 hm body _ Cb φ1 (F m) a1 (G m) w1 hf hr (zL hs hne) (hb m Kh)) fun e a2 w2 hp=>?_
  obtain⟨ja,S',pc,φ2,h1,h2,h3,h4,h5⟩:=hp
  cases e with
  |normal=>
   obtain⟨m',Fe,hlt,Lh,ud⟩:=h1
   have Ra:=hs.trans h4
   have vc:φ2≠ []:=zL Ra hne
   obtain⟨l2,φr,rfl⟩:=List.exists_cons_of_ne_nil vc
   obtain⟨l0,φ0,rfl⟩:=List.exists_cons_of_ne_nil hne
   have Ef:S'≠ []:=fun h0=>by have:=h3.shape;rw[h0]at this;simp at this
   obtain⟨L',SR,rfl⟩:=List.exists_cons_of_ne_nil Ef
   have Ge:l0.length<=n m':=Nat.le_trans (Nat.le_trans pa (Nat.le_of_eq hn2)) (hn m' Fe)
   have qf:RF pc (l2.take (n m')::φr) (AV.cuts (n m') ja) a2:=⟨by rw[zCG];exact h2.len,fun t c x hc hx=>by
    rw[zBo]at hc
    obtain⟨c0,h0,rfl⟩:=Option.map_eq_some_iff.1 hc
    exact(h2.at_ t c0 x h0 hx).cut⟩
   exact⟨μ m',hlt,m',pc,l2.take (n m')::φr,Fe,rfl,qf.wk (zEM Lh),zEH (zDt h3 (n m')) (zEN ud),zEt Ra Ge,h5.trans hd⟩
  |_=>exact⟨ja,S',pc,φ2,h1,h2,h3,hs.trans h4,h5.trans hd⟩
 | .scope _,Q,Pr,φ,fr,a,S,w,h,hR,hne,hk=>hk.elim
 | .rangeFunc _ _ _ _,Q,Pr,φ,fr,a,S,w,h,hR,hne,hk=>hk.elim
 | .goto _,Q,Pr,φ,fr,a,S,w,h,hR,hne,hk=>hk.elim
 | .refuse _,Q,Pr,φ,fr,a,S,w,h,hR,hne,hk=>hk.elim
def zXW(P:Program)(rs:List ResultVar)(fc:ARes)(S':ASt)(e:Exit)(fr:List AV)(S1:ASt):Prop:=
 match fc with
 | .ret r=>zME P rs r S' e fr S1
 | .thr v=>e= .panic (zDA v)/\S1.tail=S'
section
variable{P:Program}{K:FuncId}{args:List AV}{S S':ASt}
theorem zK.intro{fc:ARes}{fn:Func}{c:Code}(hm:P.follows .mixedOrders=true)(hK:∀xs w,(callFunc K xs).run P w= .ok (.enter K xs) w)(hf:P.funcs[K]? =some fn)(hb:fn.body=some c)
  (h:zBV P c (AV.ups 1 args++List.replicate (fn.ntmps-args.length) .un) ([]::S) (zXW P fn.results.toList fc S')):zK P K args S fc S':=by
 refine⟨hK,fun Pr φ xs w da hR hne=>?_⟩
 refine calls_of_wp hf hb ?_
 have nb:RF Pr ([]::φ) (AV.ups 1 args++List.replicate (fn.ntmps-args.length) .un) {tmps:=xs++Array.replicate (fn.ntmps-xs.size) undef,defers:=[]}:=by
  refine⟨by simp[zAK,da.1],fun t v x hv hx=>?_⟩
  rcases Nat.lt_or_ge t args.length with ht|ht
  .rw[List.getElem?_append_left (by rw[zAK];exact ht),zBt]at hv
   obtain⟨v0,h0,rfl⟩:=Option.map_eq_some_iff.1 hv
   simp only at hx;rw[Array.getElem?_append_left (by rw[<-da.1];exact ht)]at hx
   exact RA.up (k:=1) (da.2 t v0 x h0 hx)
  rw[List.getElem?_append_right (by rw[zAK];exact ht)]at hv
  simp only at hx;rw[Array.getElem?_append_right (by rw[<-da.1];exact ht)]at hx
  rw[List.getElem?_replicate]at hv;rw[Array.getElem?_replicate]at hx;split at hv
  .split at hx
   .cases hv;cases hx;exact .un
   cases hx
  cases hv
 refine wp_mono (zC1 hm c _ Pr ([]::φ) _ _ ([]::S) w nb (zCS hR) (by simp) h) fun e a' w' hp=>?_
 obtain⟨ja,S1,Pr',φ',hq,h4,h5,h6,h7⟩:=hp
 have Db:φ'≠ []:=zL h6 (by simp)
 obtain⟨l',φ1,rfl⟩:=List.exists_cons_of_ne_nil Db
 have tc:S1≠ []:=fun h0=>by have:=h5.shape;rw[h0]at this;simp at this
 obtain⟨L',S2,rfl⟩:=List.exists_cons_of_ne_nil tc
 cases fc with
 |ret r=>
  obtain⟨he,vs,h1,h2,h3⟩:=hq
  obtain⟨x,hx,ta⟩:=zB3 (P:=P) (fn:=fn) h4 h5 h1
  simp only[List.tail_cons]at h3;subst h3
  have key:a'.defers=[]/\∃v,(results fn a'.tmps).run P w'= .ok v w'/\∃Pr' φ',(ARes.ret r).fits Pr' φ' (.returned v)/\Stp Pr φ w Pr' φ' w'/\Rel Pr' φ' S2 w':=
   ⟨h7,x,ta,Pr',φ1,⟨x,rfl,hx.down r h2⟩,zCq h6,zB9 h5⟩
  rcases he with rfl|rfl
  .exact key
  exact key
 |thr v=>
  obtain⟨rfl,h3⟩:=hq
  simp only[List.tail_cons]at h3;subst h3;exact⟨h7,Pr',φ1,rfl,zCq h6,zB9 h5⟩
theorem zK.assume{fc:ARes}{p:Prop}(hK:∀xs w,(callFunc K xs).run P w= .ok (.enter K xs) w)(hp:∀(Pr:Prot) (φ:Fi2) (xs:Array Value),RL Pr φ args xs->p)(h:p->zK P K args S fc S'):zK P K args S fc S':=
 ⟨hK,fun Pr φ xs w da hR hne=>(h (hp Pr φ xs da)).2 Pr φ xs w da hR hne⟩
theorem zK.okP{fc:ARes}{p:PV}(hK:∀xs w,(callFunc K xs).run P w= .ok (.enter K xs) w)(j:Nat)(hj:args[j]? =some (.p p))(h:PVok p->zK P K args S fc S'):zK P K args S fc S':=
 zK.assume hK (fun Pr φ xs hx=>by
  obtain⟨x,h1⟩:=zMF hx hj
  cases h1 with
  |p h2=>exact⟨Pr,x,h2⟩) h
theorem zK.okA{fc:ARes}{cs:List AV}{p:PV}(hK:∀xs w,(callFunc K xs).run P w= .ok (.enter K xs) w)(j i:Nat)(hj:args[j]? =some (.agg cs))(hi:cs[i]? =some (.p p))(h:PVok p->zK P K args S fc S'):zK P K args S fc S':=
 zK.assume hK (fun Pr φ xs hx=>by
  obtain⟨x,h1⟩:=zMF hx hj
  obtain⟨y,h2⟩:=zWn h1 hi
  cases h2 with
  |p h3=>exact⟨Pr,y,h3⟩) h
end
section
variable{P:Program}{fr:List AV}{S:ASt}{Q:Exit->List AV->ASt->Prop}
def zRX(P:Program)(b:Code)(Q:Exit->List AV->ASt->Prop)(e:Exit)(fr:List AV)(S:ASt):Prop:=match e with| .normal=>zBV P b fr S Q|e=>Q e fr S
theorem zv(b:Code):zRX P b Q .normal fr S=zBV P b fr S Q:=rfl
theorem zAb(b:Code)(j:Nat):zRX P b Q (.exit j) fr S=Q (.exit j) fr S:=rfl
theorem zA5(b:Code):zRX P b Q .ret fr S=Q .ret fr S:=rfl
theorem zAC(b:Code)(l:List PanicEntry):zRX P b Q (.panic l) fr S=Q (.panic l) fr S:=rfl
theorem zAc(i:Nat)(l:List PanicEntry):BlkQ i Q (.panic l) fr S=Q (.panic l) fr S:=rfl
theorem zAd:zBV P .skip fr S Q=Q .normal fr S:=by rw[zBV]
theorem zw(id:Nat)(ops:Array Oper):zBV P (.region id ops false) fr S Q=zBI P ops ops.toList fr S Q:=by rw[zBV,if_neg (by simp)]
theorem zU{id:Nat}{ops:Array Oper}(h:awp P (.region id ops true) fr S Q):zBV P (.region id ops true) fr S Q:=by
 rw[zBV,if_pos rfl]
 rwa [awp,if_pos rfl]at h
theorem zA6(a b:Code):zBV P (.seq a b) fr S Q=zBV P a fr S (zRX P b Q):=by rw[zBV]<;>congr 1
theorem zAe(c:Operand)(t e:Code):zBV P (.cond c t e) fr S Q=(match evA fr c with| .p (.v (.bool b))=>if b=true then zBV P t fr S Q else zBV P e fr S Q|_=>False):=by rw[zBV]<;>rfl
theorem zAD(id:Nat)(c:Code):zBV P (.block id c) fr S Q=zBV P c fr S (BlkQ id Q):=by rw[zBV]<;>congr 1
theorem zAf(id:Nat):zBV P (.exit id) fr S Q=Q (.exit id) fr S:=by rw[zBV]
theorem zA7:zBV P .ret fr S Q=Q .ret fr S:=by rw[zBV]
theorem zx{ops:Array Oper}:zBI P ops [] fr S Q=Q .normal fr S:=by rw[zBI]
@[reducible] def CallPn (P : Program) (F : Nat) (args : List AV) (S : ASt) (K : ARes -> ASt -> Prop) : Prop:=∃ fc S',zK P F args S fc S' /\ K fc S'
def zRY(P:Program)(ops:Array Oper)(os:List Oper)(fr:List AV)(dst:Option Nat)(Q:Exit->List AV->ASt->Prop)(fc:ARes)(S:ASt):Prop:=match fc with
 | .ret r=>zBI P ops os (putA fr dst r) S Q
 | .thr v=>Q (.panic (zDA v)) fr S
theorem zAg{ops:Array Oper}(os:List Oper)(dst:Option Nat)(r:AV):zRY P ops os fr dst Q (.ret r) S=zBI P ops os (putA fr dst r) S Q:=rfl
theorem zAh{ops:Array Oper}(os:List Oper)(dst:Option Nat)(v:Value):zRY P ops os fr dst Q (.thr v) S=Q (.panic (zDA v)) fr S:=rfl
theorem zn{ops:Array Oper}(o:Oper)(os:List Oper):zBI P ops (o::os) fr S Q=(match zBk ops o fr with
  |some true=>
   match zCV o fr with
   |some v=>Q (.panic (zDA v)) fr S
   |none=>
    match zCl o fr with
    |some (F,args)=>CallPn P F args S (zRY P ops os fr o.dst Q)
    |none=>
     match zDu P o fr S with
     |some (v,S')=>zBI P ops os (putA fr o.dst v) S' Q
     |none=>False
  |some false=>zBI P ops os (putA fr o.dst .un) S Q
  |none=>False):=by rw[zBI]<;>rfl
theorem zA8{rs:List ResultVar}{r:AV}{S':ASt}(e:Exit):zXW P rs (.ret r) S' e fr S=zME P rs r S' e fr S:=rfl
theorem zA9{rs:List ResultVar}{v:Value}{S':ASt}(e:Exit):zXW P rs (.thr v) S' e fr S=(e= .panic (zDA v)/\S.tail=S'):=rfl
theorem CallPn.det{F:Nat}{args:List AV}{K:ARes->ASt->Prop}(h:CallQ P F args S fun r S'=>K (.ret r) S'):CallPn P F args S K:=by
 obtain⟨r,S',h1,h2⟩:=h
 exact⟨_,_,h1.call,h2⟩
end
section
variable{α:Type}{I:α->Prop}{F:α->List AV}{G:α->ASt}{μ:α->Nat}{m n:Nat}{Q:Exit->List AV->ASt->Prop}{ja:List AV}{S':ASt}
theorem zAO(l:List PanicEntry):zJu I F G μ m n Q (.panic l) ja S'=Q (.panic l) ja S':=rfl
theorem zAP{n:α->Nat}(l:List PanicEntry):zKy I F G μ m n Q (.panic l) ja S'=Q (.panic l) ja S':=rfl
end
theorem zBi{P:Program}{fr:List AV}{S:ASt}{Q:Exit->List AV->ASt->Prop}{body:Code}{α:Type}(I:α->Prop)(F:α->List AV)(G:α->ASt)(μ:α->Nat)(a0:α)(h0:I a0)(hF:wkR fr (F a0))(hG:wkT S (G a0))(h:∀a,I a->zBV P body (F a) (G a) (zJu I F G μ (μ a) (top (G a0)) Q)):zBV P (.loop body) fr S Q:=⟨α,I,F,G,μ,a0,fun _=>top (G a0),h0,.wk hF hG,fun _ _=>Nat.le_refl _,h⟩
theorem zo{P:Program}{fr:List AV}{L:List AObj}{R:ASt}{Q:Exit->List AV->ASt->Prop}{body:Code}{α:Type}(E:TypeId)(k:Nat)(hk:0<k)(L':List AObj)(I:α->Prop)(F:α->List AV)(G:α->ASt)(μ:α->Nat)(a0:α)(h0:I a0)(nb:wkNR k L.length fr (F a0))(hL:wkNL k L.length L L')(hG:G a0=((L'++[.tok E k 0])::R))(h:∀a,I a->zBV P body (F a) (G a) (zJu I F G μ (μ a) (top (G a0)) Q)):zBV P (.loop body) fr (L::R) Q:=⟨α,I,F,G,μ,a0,fun _=>top (G a0),h0,by rw[hG];exact zFo.ghost E k hk nb hL,fun _ _=>Nat.le_refl _,h⟩
end Go.Proofs.YtdflkegnmmkkoaaGreatDoor
namespace Go.Proofs.YtdflkegnmmkkoaaGreatDoor
open Go.RowKit
def cutO(cs:List Nat)(k:Nat)(o:Oper):Oper:=if cs.contains k=true then {o with op:=.move (.global 0),dst:=none,guard:=none}else o
def cutL(cs:List Nat):Nat->List Oper->List Oper
 |_,[]=>[]
 |k,o::os=>cutO cs k o::cutL cs (k+1) os
theorem zNh(cs:List Nat):∀(os:List Oper) (k i:Nat),(cutL cs k os)[i]? =(os[i]?).map (cutO cs (k+i))
 | [],k,i=>by simp[cutL]
 |o::os,k,0=>by simp[cutL]
 |o::os,k,i+1=>by
  simp only[cutL,List.getElem?_cons_succ];rw[zNh cs os (k+1) i]
  congr 2
  omega
theorem zNi(cs:List Nat):∀(os:List Oper) (k:Nat),(cutL cs k os).length=os.length
 | [],k=>rfl
 |o::os,k=>by simp[cutL,zNi cs os]
def cutR(cs:List Nat)(ops:Array Oper):Array Oper:=(cutL cs 0 ops.toList).toArray
def zUX(i0:Nat)(cs:List Nat)(ops:Array Oper):Bool:=
 let M:=zOq (cutR cs ops).toList []
 match ops[i0]? with
 |none=>false
 |some o0=>cs.contains i0&&(cs.all fun k=>k==i0||(M.getD k 0).testBit i0)&&
  (ops.toList.zipIdx.all fun q=>cs.contains q.2||(
   (zA4 q.1 !=2||(M.getD i0 0).testBit q.2)&&
   (match q.1.dst with|some t=>!(o0.looksAt ops).contains t||(M.getD i0 0).testBit q.2|none=>true)&&
   (match q.1.guard with|some g=>!cs.contains g.1|none=>true)))
section
variable{P:Program}{ops:Array Oper}{cs:List Nat}{i0:Nat}
theorem zBJ(i:Nat):(cutR cs ops)[i]? =(ops[i]?).map (cutO cs i):=by
 unfold cutR;rw[List.getElem?_toArray,zNh,Nat.zero_add,Array.getElem?_toList]
theorem zFt:(cutR cs ops).size=ops.size:=by simp[cutR,zNi]
theorem zRZ{k:Nat}{o:Oper}(h:cs.contains k=true):cutO cs k o={o with op:=.move (.global 0),dst:=none,guard:=none}:=by
 rw[cutO,if_pos h]
theorem zHB{k:Nat}{o:Oper}(h:cs.contains k=false):cutO cs k o=o:=by
 rw[cutO,if_neg (by rw[h];decide)]
theorem zOv{k:Nat}{o:Oper}:(cutO cs k o).after=o.after:=by
 unfold cutO;split<;>rfl
theorem zRa(ba:Array Bool):Region.ready .any ops ba=Region.ready .any (cutR cs ops) ba:=by
 unfold Region.ready;rw[zFt];refine List.filter_congr fun j hj=>?_
 rw[zBJ]
 cases ops[j]? with
 |none=>rfl
 |some x=>simp only[Option.map_some,zOv]
theorem zOw{o:Oper}(hg:∀g b,o.guard=some (g,b)->cs.contains g=false)(ts:Array Value):Region.wanted o (yielded (cutR cs ops) ts)=Region.wanted o (yielded ops ts):=by
 have e:∀g,cs.contains g=false->yielded (cutR cs ops) ts g=yielded ops ts g:=fun g h=>by
  unfold yielded
  have:((cutR cs ops)[g]?).bind (·.dst)=(ops[g]?).bind (·.dst):=by
   rw[zBJ]
   cases ops[g]? with
   |none=>rfl
   |some x=>rw[Option.map_some,zHB h]
  rw[this]
 unfold Region.wanted
 cases dm:o.guard with
 |none=>rfl
 |some g=>
  obtain⟨g,b⟩:=g
  simp only[e g (hg g b dm)]
theorem zOx(h:zUX i0 cs ops=true):∃o0,ops[i0]? =some o0/\cs.contains i0=true/\(∀k,cs.contains k=true->k≠i0->ordB (cutR cs ops) i0 k=true)/\
  ∀k o,ops[k]? =some o->cs.contains k=false->(zA4 o=2->ordB (cutR cs ops) k i0=true)/\(∀t,o.dst=some t->t∈o0.looksAt ops->ordB (cutR cs ops) k i0=true)/\∀g b,o.guard=some (g,b)->cs.contains g=false:=by
 unfold zUX at h;simp only at h;split at h
 .cases h
 rename_i o0 Mg
 simp only[Bool.and_eq_true,List.all_eq_true,Bool.or_eq_true,beq_iff_eq]at h
 obtain⟨⟨h1,h2⟩,h3⟩:=h
 refine⟨o0,Mg,h1,fun k hk hne=>?_,fun k o ho hc=>?_⟩
 .rcases h2 k (by simpa using hk)with h|h
  .exact absurd h hne
  exact h
 rcases h3 (o,k) (List.mem_zipIdx_iff_getElem?.2 (by simpa using ho))with h|⟨⟨ha,hb⟩,hd⟩
 .simp only at h;rw[hc]at h;cases h
 refine⟨fun hk=>?_,fun t ht hm=>?_,fun g b hg=>?_⟩
 .rcases ha with ha|ha
  .simp[hk]at ha
  exact ha
 .simp only[ht,Bool.or_eq_true]at hb
  rcases hb with hb|hb
  .simp[hm]at hb
  exact hb
 simp only[hg,Bool.not_eq_true']at hd
 exact hd
theorem zNj{D:Nat->Bool}(hJ:zDP ops D){i:Nat}{o:Oper}(ho:ops[i]? =some o)(hr:∀e∈o.after,Region.binds .any e=true->D e.on=true){k:Nat}(hk:Anc ops i k):D k=true:=by
 cases hk with
 |step ya he hb=>rw[ho]at ya;cases ya;exact hr _ he hb
 |trans ya he hb ht=>rw[ho]at ya;cases ya;exact zDg hJ ht (hr _ he hb)
variable{fr0:List AV}{S0:ASt}{V:Nat->AV}{Sx:Nat->ASt}
theorem Drawn.thr(na:zUX i0 cs ops=true)(hd:Drawn P (cutR cs ops) fr0 S0 V Sx){Q:Exit->List AV->ASt->Prop}{F:FuncId}{args:List AV}{v:Value}{T:ASt}
  (hc:∀o0,ops[i0]? =some o0->zBk ops o0 (frD (cutR cs ops) V (fun _=>true) (List.range (cutR cs ops).size) fr0)=some true/\zCl o0 (frD (cutR cs ops) V (fun _=>true) (List.range (cutR cs ops).size) fr0)=some (F,args)) (hA:zK P F args (Sx (cutR cs ops).size) (.thr v) T) (hQ:∀fr,Q (.panic (zDA v)) fr T)
  {Pr0:Prot} {φ0:Fi2} {a0:Act} {w0:World}:
  ∀(fuel:Nat) (ba:Array Bool) (Pr:Prot) (φ:Fi2) (a:Act) (w:World),ba.size=(cutR cs ops).size->ba.getD i0 false=false->((List.range (cutR cs ops).size).filter fun j=>!ba.getD j true).length<=fuel->zDP (cutR cs ops) (fun j=>ba.getD j false)->
   RF Pr φ (frD (cutR cs ops) V (fun j=>ba.getD j false) (List.range (cutR cs ops).size) fr0) a->Rel Pr φ (Sc (cutR cs ops) Sx (fun j=>ba.getD j false) (List.range (cutR cs ops).size) (Sx 0)) w->φ≠ []->Stp Pr0 φ0 w0 Pr φ w->a.defers=a0.defers->wpAny P .any ops (Post Pr0 φ0 a0 w0 Q) fuel ba a w:=by
 obtain⟨o0,Mg,Jq,gm,Fa⟩:=zOx na
 obtain⟨Qc,Ng⟩:=hc o0 Mg
 have Ao:∀i,(cutR cs ops)[i]? =(ops[i]?).map (cutO cs i):=zBJ
 have Zg:∀ba,Region.ready .any ops ba=Region.ready .any (cutR cs ops) ba:=zRa
 have Bo:(cutR cs ops).size=ops.size:=zFt
 have tn:∀(o:Oper),(∀g b,o.guard=some (g,b)->cs.contains g=false)->∀ts,Region.wanted o (yielded (cutR cs ops) ts)=Region.wanted o (yielded ops ts):=fun o hg ts=>zOw hg ts
 have Co:i0<(cutR cs ops).size:=by rw[Bo];exact zCU Mg
 generalize cutR cs ops=c at*
 obtain⟨g1,g2⟩:=zDe hd.stat
 have de:∀(ba:Array Bool),ba.size=c.size->ba.getD i0 false=false->Region.ready .any c ba≠ []:=by
  intro ba cb Gc hr
  have ia:∀i,i<c.size->ba.getD i false=true:=by
   intro i
   induction i using Nat.strongRecOn with
   |_ i ih=>
    intro hi
    cases hl:ba.getD i false with
    |true=>rfl
    |false=>
     have ho:c[i]? =some c[i]:=Array.getElem?_eq_getElem hi
     have Pc:i∈Region.ready .any c ba:=by
      refine List.mem_filter.2 ⟨List.mem_range.2 hi,?_⟩
      have rg:ba.getD i true=false:=by
       have Ae:i<ba.size:=by omega
       simp[Array.getD,Ae]at hl ⊢;exact hl
      simp only[rg,Bool.not_false,Bool.true_and,ho,Option.map_some,Option.getD_some];rw[Array.all_eq_true];intro x hx
      cases hb:Region.binds .any c[i].after[x]with
      |false=>simp
      |true=>
       have hlt:=g1 i _ ho c[i].after[x] (Array.getElem_mem hx) hb
       simp only[Bool.not_true,Bool.false_or];exact ih _ hlt (by omega)
     rw[hr]at Pc;cases Pc
  rw[ia i0 Co]at Gc;cases Gc
 intro fuel
 induction fuel with
 |zero=>
  intro ba Pr φ a w cb Gc Ff hJ hf hR hne hs Od
  exfalso
  refine de ba cb Gc ?_
  have h0:(List.range c.size).filter (fun j=>!ba.getD j true)=[]:=List.eq_nil_of_length_eq_zero (by omega)
  rw[List.eq_nil_iff_forall_not_mem];intro j hj
  obtain⟨h1,h2⟩:=List.mem_filter.1 hj
  simp only[Bool.and_eq_true]at h2
  have:j∈(List.range c.size).filter (fun j=>!ba.getD j true):=List.mem_filter.2 ⟨h1,h2.1⟩
  rw[h0]at this;cases this
 |succ fuel ih=>
  intro ba Pr φ a w cb Ek Ff hJ hf hR hne hs Od;refine⟨fun hr=>absurd (by rw[<-Zg];exact hr) (de ba cb Ek),fun i hi=>?_⟩
  rw[Zg]at hi
  obtain⟨mb,o,ho,ia⟩:=mem_ready.1 hi
  have nl:i<c.size:=zCU ho
  have Ae:i<ba.size:=by omega
  have Gc:ba.getD i false=false:=by
   simp[Array.getD,Ae]at mb ⊢;exact mb
  have Oa:∀e∈o.after,Region.binds .any e=true->ba.getD e.on false=true:=ia
  have cg:∃oc,ops[i]? =some oc/\cutO cs i oc=o:=by
   rw[Ao]at ho;exact Option.map_eq_some_iff.1 ho
  obtain⟨oc,cg,Tq⟩:=cg
  by_cases Do:i=i0
  .--the call itself
   subst Do;rw[Mg]at cg;cases cg
   have Mj:∀k,ordB c k i=true->ba.getD k false=true:=fun k hk=>zNj (D:=fun j=>ba.getD j false) hJ ho Oa (zFr hk)
   have Nj:∀t∈o0.looksAt ops,(frD c V (fun j=>ba.getD j false) (List.range c.size) fr0)[t]? =(frD c V (fun _=>true) (List.range c.size) fr0)[t]?:=fun t ht=>by
    refine zCT _ _ _ rfl rfl fun j hj Oc=>?_
    have Uq:j<c.size:=List.mem_range.1 hj
    have ql:j<ops.size:=by omega
    have im:ops[j]? =some ops[j]:=Array.getElem?_eq_getElem ql
    unfold dstO at Oc;rw[Ao,im,Option.map_some,Option.bind_some]at Oc
    cases Bf:cs.contains j with
    |true=>rw[zRZ Bf]at Oc;cases Oc
    |false=>
     rw[zHB Bf]at Oc;exact Mj j ((Fa j _ im Bf).2.1 t Oc ht)
   have vi:Sc c Sx (fun j=>ba.getD j false) (List.range c.size) (Sx 0)=Sx c.size:=by
    rw[zC0 (D':=fun j=>decide (j<c.size)) _ _ fun j hj Pi=>?_]
    .exact hd.all_to _ (Nat.le_refl _)
    have Uq:j<c.size:=List.mem_range.1 hj
    have ql:j<ops.size:=by omega
    have im:ops[j]? =some ops[j]:=Array.getElem?_eq_getElem ql
    unfold chO at Pi;rw[Ao,im,Option.map_some]at Pi
    cases Bf:cs.contains j with
    |true=>rw[zRZ Bf]at Pi;simp[zA4]at Pi
    |false=>
     rw[zHB Bf]at Pi
     have hk:zA4 ops[j]=2:=by simpa using Pi
     rw[Mj j ((Fa j _ im Bf).1 hk)];simp[Uq]
   rw[vi]at hR;unfold wpOp;rw[Mg];simp only;rw[<-zCJ Nj]at Qc;rw[<-zDx (zG6 Nj)]at Ng;simp only[zBP hf Qc,if_true]
   left
   exact zLH hf hR hne Ng hA fun w' Pr' φ' s1 s2=>⟨_,T,Pr',φ',hQ _,hf.mono s1.pl s1.fl,s2,hs.trans s1,Od⟩
  .cases Bf:cs.contains i with
   |true=>
    have h1:ba.getD i0 false=true:=zNj (D:=fun j=>ba.getD j false) hJ ho Oa (zFr (gm i Bf Do))
    rw[Ek]at h1;cases h1
   |false=>
    rw[zHB Bf]at Tq;subst Tq
    have dm:=(Fa i _ cg Bf).2.2
    have Ec:∀j,(ba.setIfInBounds i true).getD j false=if j=i then true else ba.getD j false:=fun j=>by
     by_cases hj:j=i
     .subst hj;simp[Array.getD,Ae]
     rw[if_neg hj]
     simp only[Array.getD_eq_getD_getElem?];rw[Array.getElem?_setIfInBounds_ne (by omega)]
    have Ul:zDP c (fun j=>(ba.setIfInBounds i true).getD j false):=fun j x hx hj e he hb=>by
     show(ba.setIfInBounds i true).getD e.on false=true
     rw[Ec];split
     .rfl
     by_cases Wc:j=i
     .subst Wc;rw[ho]at hx;cases hx;exact Oa e he hb
     have:ba.getD j false=true:=by
      have Ig:(ba.setIfInBounds i true).getD j false=true:=hj
      rw[Ec,if_neg Wc]at Ig;exact Ig
     exact hJ j x hx this e he hb
    have Zd:((List.range c.size).filter fun j=>!(ba.setIfInBounds i true).getD j true).length<=fuel:=by
     have h1:((List.range c.size).filter fun j=>!(ba.setIfInBounds i true).getD j true)=((List.range c.size).filter fun j=>!ba.getD j true).filter (fun j=>!(j==i)):=by
      rw[List.filter_filter];refine List.filter_congr fun j hj=>?_
      by_cases Wc:j=i
      .subst Wc;simp[Array.getD,Ae]
      simp only[Array.getD_eq_getD_getElem?]
      rw[Array.getElem?_setIfInBounds_ne (by omega)]
      simp[Wc]
     have h2:i∈(List.range c.size).filter fun j=>!ba.getD j true:=List.mem_filter.2 ⟨List.mem_range.2 nl,by rw[mb];rfl⟩
     have h3:(((List.range c.size).filter fun j=>!ba.getD j true).filter (fun j=>!(j==i))).length<((List.range c.size).filter fun j=>!ba.getD j true).length:=by
      refine List.length_filter_lt_length_iff_exists.2 ⟨i,h2,by simp⟩
     rw[h1];omega
    have Kb:=hd.looks (D:=fun j=>ba.getD j false) hJ ho Gc Oa
    have Jg:=zG6 Kb
    have ae:=hd.put (D:=fun j=>ba.getD j false) (D':=fun j=>(ba.setIfInBounds i true).getD j false) hJ ho Gc Oa Ec
    have Eo:(ba.setIfInBounds i true).getD i0 false=false:=by rw[Ec,if_neg (fun h=>Do h.symm)];exact Ek
    have go:∀(S':ASt),Sc c Sx (fun j=>(ba.setIfInBounds i true).getD j false) (List.range c.size) (Sx 0)=S'->∀x w' Pr' φ',Stp Pr φ w Pr' φ' w'->Rel Pr' φ' S' w'->RA Pr' φ' (V i) x->wpAny P .any ops (Post Pr0 φ0 a0 w0 Q) fuel (ba.setIfInBounds i true) (a.put oc.dst x) w':=by
     intro S' Ef x w' Pr' φ' s1 s2 s3;refine ih (ba.setIfInBounds i true) Pr' φ' _ w' (by simpa using cb) Eo Zd Ul ?_ ?_ (zL s1 hne) (hs.trans s1) ((zAT _ _ _).trans Od)
     .rw[ae];exact(hf.mono s1.pl s1.fl).put oc.dst s3
     rw[Ef];exact s2
    have Lb:zA4 oc≠2->Sc c Sx (fun j=>(ba.setIfInBounds i true).getD j false) (List.range c.size) (Sx 0)=Sc c Sx (fun j=>ba.getD j false) (List.range c.size) (Sx 0):=fun hk=>zC0 _ _ fun j _ hc=>by
     rw[Ec,if_neg (fun Wc=>?_)]
     subst Wc;simp[chO,ho]at hc;exact hk hc
    have sg:∀{b:Bool},zBk c oc (frD c V (fun j=>ba.getD j false) (List.range c.size) fr0)=some b->Region.wanted oc (yielded ops a.tmps)=b:=fun h=>by
     rw[<-tn oc dm];exact zBP hf h
    unfold wpOp;rw[cg];simp only
    rcases hd.step i oc ho with⟨hw,hV,vk⟩|⟨hw,Gf⟩
    .rw[zCJ Kb]at hw
     simp only[sg hw,Bool.false_eq_true,if_false];refine go _ ?_ undef w Pr φ (Stp.refl _ _ _) hR (by rw[hV];exact .un)
     by_cases hk:zA4 oc=2
     .rw[hd.chain_next (D:=fun j=>ba.getD j false) hJ ho Gc Oa hk Ec,vk,hd.chain (D:=fun j=>ba.getD j false) hJ ho Gc Oa hk]
     exact Lb hk
    rw[zCJ Kb]at hw
    simp only[sg hw,if_true]
    left
    rcases Gf with⟨h1,hk,_⟩|⟨ref,h1,hk,_,hm⟩|⟨hk,h1⟩
    .rw[zFq Jg]at h1
     exact zAn hf hR hne (.quiet h1) (go _ (Lb (by omega)))
    .have h2:=zHh Jg h1 (S':=Sc c Sx (fun j=>ba.getD j false) (List.range c.size) (Sx 0)) fun d k hr=>hd.kept (D:=fun j=>ba.getD j false) hJ ho Gc Oa (hm d k hr)
     exact zAn hf hR hne (.load h2) (go _ (Lb (by omega)))
    have Nh:=hd.chain (D:=fun j=>ba.getD j false) hJ ho Gc Oa hk
    have vi:=hd.chain_next (D:=fun j=>ba.getD j false) hJ ho Gc Oa hk Ec
    rw[Nh]at hR
    rcases h1 with⟨lg,h1⟩|⟨F,args,h1,h2⟩
    .rw[zHi Jg]at h1
     exact zAn hf hR hne (.chain h1) (go _ vi)
    rw[zDx Jg]at h1
    exact zAn hf hR hne (zDv h1 h2) (go _ vi)
def ThrK(P:Program)(ops:Array Oper)(i0:Nat)(Q:Exit->List AV->ASt->Prop)(fr:List AV)(S:ASt):Prop:=
 match ops[i0]? with
 |none=>False
 |some o=>zBk ops o fr=some true/\match zCl o fr with
  |none=>False
  |some (F,args)=>∃v T,zK P F args S (.thr v) T/\∀fr,Q (.panic (zDA v)) fr T
theorem z6{id:Nat}{fr:List AV}{S:ASt}{Q:Exit->List AV->ASt->Prop}(i0:Nat)(cs:List Nat)(jb:List (Nat × Nat))(na:zUX i0 cs ops=true)(Ca:zK2 (cutR cs ops)=true)(bf:zI8 (cutR cs ops)=jb)(h:awpD P (cutR cs ops) jb (ThrK P ops i0 Q) (cutL cs 0 ops.toList) 0 fr S [] [S] []):zBV P (.region id ops true) fr S Q:=by
 rw[zBV,if_pos rfl]
 obtain⟨V,Sx,hd,hK⟩:=zJv jb Ca bf (by simpa [cutR]using h)
 unfold ThrK at hK;split at hK
 .exact hK.elim
 rename_i o0 Mg
 obtain⟨hw,hK⟩:=hK
 split at hK
 .exact hK.elim
 rename_i F args Ng
 obtain⟨v,T,hA,hQ⟩:=hK
 intro Pr0 φ0 a0 w0 Pr φ a w hf hR hne hs Od
 have e0:∀j,(Array.replicate ops.size false).getD j false=false:=fun j=>by
  simp only[Array.getD_eq_getD_getElem?,Array.getElem?_replicate];split<;>rfl
 have e1:∀(l:List Nat) (fr:List AV),frD (cutR cs ops) V (fun j=>(Array.replicate ops.size false).getD j false) l fr=fr:=fun l=>by
  induction l with
  |nil=>intro fr;rfl
  |cons j l ih=>intro fr;rw[frD,e0,if_neg (by simp),ih]
 have e2:∀(l:List Nat) (S:ASt),Sc (cutR cs ops) Sx (fun j=>(Array.replicate ops.size false).getD j false) l S=S:=fun l=>by
  induction l with
  |nil=>intro S;rfl
  |cons j l ih=>intro S;rw[Sc,e0,Bool.false_and,if_neg (by simp),ih]
 refine hd.thr na (fun o ho=>by rw[Mg]at ho;cases ho;exact⟨hw,Ng⟩) hA hQ ops.size _ Pr φ a w (by simp[zFt]) (e0 _) (Nat.le_trans (List.length_filter_le _ _) (by simp[zFt])) (fun i o ho hi=>by
  have h1:(Array.replicate ops.size false).getD i false=true:=hi
  rw[e0]at h1;cases h1) ?_ ?_ hne hs Od
 .rw[e1];exact hf
 rw[e2,hd.start];exact hR
end
end Go.Proofs.YtdflkegnmmkkoaaGreatDoor
namespace Go.Proofs.YtdflkegnmmkkoaaGreatDoor
open Go.RowKit
def zLI(P:Program)(K:FuncId)(args:List AV)(S:ASt)(u u':FrameMode)(S':ASt):Prop:=
 (∀xs w,(callFunc K xs).run P w= .ok (.enter K xs) w)/\∀Pr φ (xs:Array Value) w,RL Pr φ args xs->Rel Pr φ S w->φ≠ []->
  CallsD P K xs u w fun e v w'=>v=u'/\∃x Pr' φ',e= .returned x/\Stp Pr φ w Pr' φ' w'/\Rel Pr' φ' S' w'
def zJ2(P:Program):List AV->FrameMode->ASt->ASt->Prop
 | [],u,S,S'=>u= .returning/\S=S'
 | .fn (.func K) la lb::vs,u,S,S'=>u≠ .run/\∃u' S1,zLI P K (la++lb) S u u' S1/\zJ2 P vs (settle u') S1 S'
 |_::_,_,_,_=>False
section
variable{P:Program}
theorem zGq{fn:Func}{a:Act}{fr:List AV}{Fo:List AV}{R:Ending->World->Prop}{Pr0:Prot}{φ0:Fi2}{w0:World}{S':ASt}(bc:resA P fr S' fn.results.toList=some Fo)(cj:∀Pr φ w x,Stp Pr0 φ0 w0 Pr φ w->Rel Pr φ S' w->RA Pr φ (retA Fo) x->R (.returned x) w):
  ∀(vs:List AV) (ds:List Deferred) (u:FrameMode) (Pr:Prot) (φ:Fi2) (S:ASt) (w:World),DR Pr φ vs ds->RF Pr φ fr a->Rel Pr φ S w->φ≠ []->Stp Pr0 φ0 w0 Pr φ w->zJ2 P vs u S S'->Leaves P fn a.tmps R ds u w
 | [],[],u,Pr,φ,S,w,hd,hf,hR,hne,hs,hk=>by
  obtain⟨rfl,rfl⟩:=hk
  obtain⟨x,hx,ta⟩:=zB3 (P:=P) (fn:=fn) hf hR bc
  exact⟨x,ta,cj Pr φ w x hs hR hx⟩
 | [],_::_,u,Pr,φ,S,w,hd,hf,hR,hne,hs,hk=>hd.elim
 |_::_,[],u,Pr,φ,S,w,hd,hf,hR,hne,hs,hk=>hd.elim
 |v::vs,d::ds,u,Pr,φ,S,w,⟨⟨f,la,lb,cap,h1,h2,h3⟩,hd⟩,hf,hR,hne,hs,hk=>by
  subst h1
  cases f with
  |func K=>
   obtain⟨hu,u',S1,⟨hK,hc⟩,hk⟩:=hk
   obtain⟨t,xs⟩:=d
   simp only at h2 h3;subst h2
   cases h3 with
   |fn l1 l2 c1 c2=>
    have da:RL Pr φ (la++lb) (xs++cap):=RL.append ⟨l1,c1⟩ ⟨l2,c2⟩
    refine leaves_cons hu (f:=K) (args:=xs++cap) (by simp[invoke,hK]) ?_
    refine(hc Pr φ _ w da hR hne).mono fun e v w' hp=>?_
    obtain⟨rfl,x,Pr',φ',rfl,s1,r1⟩:=hp
    exact zGq bc cj vs ds (settle v) Pr' φ' S1 w' (hd.mono s1.pl s1.fl) (hf.mono s1.pl s1.fl) r1 (zL s1 hne) (hs.trans s1) hk
  |_=>exact hk.elim
def zD3(P:Program):Code->List AV->ASt->List AV->(Exit->List AV->ASt->List AV->Prop)->Prop
 | .region id ops rb,fr,S,ds,Q=>if(ops.toList.any zFU&& !rb)=true then zAo P ops ops.toList fr S ds (Q .normal)else zBV P (.region id ops rb) fr S fun e fr S=>Q e fr S ds
 | .seq a b,fr,S,ds,Q=>zD3 P a fr S ds fun e fr S ds=>
  match e with
  | .normal=>zD3 P b fr S ds Q
  |e=>Q e fr S ds
 | .cond c t e,fr,S,ds,Q=>
  match evA fr c with
  | .p (.v (.bool b))=>if b=true then zD3 P t fr S ds Q else zD3 P e fr S ds Q
  |_=>False
 | .block id body,fr,S,ds,Q=>zD3 P body fr S ds fun e fr S ds=>
  match e with
  | .exit j=>if j=id then Q .normal fr S ds else Q (.exit j) fr S ds
  |e=>Q e fr S ds
 | .loop body,fr,S,ds,Q=>zRQ (zD3 P body) fr S ds Q
 | .exit id,fr,S,ds,Q=>Q (.exit id) fr S ds
 | .label _,fr,S,ds,Q=>Q .normal fr S ds
 | .ret,fr,S,ds,Q=>Q .ret fr S ds
 | .skip,fr,S,ds,Q=>Q .normal fr S ds
 |_,_,_,_,_=>False
theorem zUY{c:Code}(hm:P.follows .mixedOrders=true){Q:Exit->List AV->ASt->List AV->Prop}{Pr:Prot}{φ:Fi2}{fr:List AV}{a:Act}{S:ASt}{ds:List AV}{w:World}(h:RF Pr φ fr a)(hR:Rel Pr φ S w)(hne:φ≠ [])(hd:DR Pr φ ds a.defers)(hk:zBV P c fr S fun e fr S=>Q e fr S ds):c.wp P (zEI Pr φ w Q) a w:=
 wp_mono (zC1 hm c _ Pr φ fr a S w h hR hne hk) fun e a' w' hp=>by
  obtain⟨ja,S',Pr',φ',h1,h2,h3,h4,h5⟩:=hp
  exact⟨ja,S',ds,Pr',φ',h1,h2,h3,h4,by rw[h5];exact hd.mono h4.pl h4.fl⟩
theorem zD4(hm:P.follows .mixedOrders=true):∀(c:Code) (Q:Exit->List AV->ASt->List AV->Prop) (Pr:Prot) (φ:Fi2) (fr:List AV) (a:Act) (S:ASt) (ds:List AV) (w:World),RF Pr φ fr a->Rel Pr φ S w->φ≠ []->DR Pr φ ds a.defers->zD3 P c fr S ds Q->c.wp P (zEI Pr φ w Q) a w
 | .skip,Q,Pr,φ,fr,a,S,ds,w,h,hR,hne,hd,hk=>wp_skip ⟨fr,S,ds,Pr,φ,hk,h,hR,Stp.refl _ _ _,hd⟩
 | .label l,Q,Pr,φ,fr,a,S,ds,w,h,hR,hne,hd,hk=>wp_label ⟨fr,S,ds,Pr,φ,hk,h,hR,Stp.refl _ _ _,hd⟩
 | .exit id,Q,Pr,φ,fr,a,S,ds,w,h,hR,hne,hd,hk=>wp_exit ⟨fr,S,ds,Pr,φ,hk,h,hR,Stp.refl _ _ _,hd⟩
 | .ret,Q,Pr,φ,fr,a,S,ds,w,h,hR,hne,hd,hk=>wp_ret ⟨fr,S,ds,Pr,φ,hk,h,hR,Stp.refl _ _ _,hd⟩
 | .region id ops rb,Q,Pr,φ,fr,a,S,ds,w,h,hR,hne,hd,hk=>by
  simp only[zD3]at hk;split at hk
  .rename_i hc
   simp only[Bool.and_eq_true,Bool.not_eq_true']at hc;rw[hc.2];refine wp_region ?_
   have:=zC9 (Q:=Q) (fun _ _ _ h=>h) ops.toList 0 rfl Pr φ fr a S ds w h hR hne (Stp.refl _ _ _) hd hk
   rwa [List.range_eq_range',<-Array.length_toList]
  exact zUY hm h hR hne hd hk
 | .seq x y,Q,Pr,φ,fr,a,S,ds,w,h,hR,hne,hd,hk=>by
  refine wp_seq (wp_mono (zD4 hm x _ Pr φ fr a S ds w h hR hne hd hk) fun e a' w' hp=>?_)
  obtain⟨ja,S',Hc,Pr',φ',h1,h2,h3,h4,h5⟩:=hp
  cases e with
  |normal=>exact wp_mono (zD4 hm y Q Pr' φ' ja a' S' Hc w' h2 h3 (zL h4 hne) h5 h1) fun e Xg Yg hp=>zEI.trans h4 e Xg Yg hp
  |_=>exact⟨ja,S',Hc,Pr',φ',h1,h2,h3,h4,h5⟩
 | .cond c t e,Q,Pr,φ,fr,a,S,ds,w,h,hR,hne,hd,hk=>by
  simp only[zD3]at hk;split at hk
  .rename_i b hb
   have hc:=zT (h.ev c) (by rw[hb];rfl)
   refine wp_cond hc ?_
   cases b with
   |true=>exact zD4 hm t Q Pr φ fr a S ds w h hR hne hd hk
   |false=>exact zD4 hm e Q Pr φ fr a S ds w h hR hne hd hk
  exact hk.elim
 | .block id body,Q,Pr,φ,fr,a,S,ds,w,h,hR,hne,hd,hk=>by
  refine wp_block (wp_mono (zD4 hm body _ Pr φ fr a S ds w h hR hne hd hk) fun e a' w' hp=>?_)
  obtain⟨ja,S',Hc,Pr',φ',h1,h2,h3,h4,h5⟩:=hp
  cases e with
  |exit j=>
   simp only[Exit.inBlock];simp only at h1;split
   .rename_i hj
    rw[if_pos hj]at h1;exact⟨ja,S',Hc,Pr',φ',h1,h2,h3,h4,h5⟩
   rename_i hj
   rw[if_neg hj]at h1
   exact⟨ja,S',Hc,Pr',φ',h1,h2,h3,h4,h5⟩
  |_=>exact⟨ja,S',Hc,Pr',φ',h1,h2,h3,h4,h5⟩
 | .loop body,Q,Pr,φ,fr,a,S,ds,w,h,hR,hne,hd,hk=>by
  obtain⟨α,I,F,G,D,μ,a0,n,hI,Ab,Lg,uo,hn,hb⟩:=hk
  have Tb:RF Pr φ (F a0) a:=h.wk (zEM Ab)
  have Df:Rel Pr φ (G a0) w:=zEH hR (zEN Lg)
  have hn2:top φ=top (G a0):=zBu Df.shape
  refine wp_loop_ghost (fun k a1 w1=>∃m Cb φ1,I m/\μ m=k/\RF Cb φ1 (F m) a1/\Rel Cb φ1 (G m) w1/\Stp Pr φ w Cb φ1 w1/\DR Cb φ1 (D m) a1.defers) (μ a0) ⟨a0,Pr,φ,hI,rfl,Tb,Df,Stp.refl _ _ _,by rw[<-uo];exact hd⟩ ?_
  rintro k a1 w1 ⟨m,Cb,φ1,Kh,rfl,hf,hr,hs,Dc⟩
  refine wp_mono (zD4 hm body _ Cb φ1 (F m) a1 (G m) (D m) w1 hf hr (zL hs hne) Dc (hb m Kh)) fun e a2 w2 hp=>?_
  obtain⟨ja,S',Hc,pc,φ2,h1,h2,h3,h4,h5⟩:=hp
  cases e with
  |normal=>
   obtain⟨m',Fe,hlt,Lh,ud,vo⟩:=h1
   have Ra:=hs.trans h4
   have vc:φ2≠ []:=zL Ra hne
   obtain⟨l2,φr,rfl⟩:=List.exists_cons_of_ne_nil vc
   obtain⟨l0,φ0,rfl⟩:=List.exists_cons_of_ne_nil hne
   have Ef:S'≠ []:=fun h0=>by have:=h3.shape;rw[h0]at this;simp at this
   obtain⟨L',SR,rfl⟩:=List.exists_cons_of_ne_nil Ef
   have Ge:l0.length<=n m':=Nat.le_trans (Nat.le_of_eq hn2) (hn m' Fe)
   have qf:RF pc (l2.take (n m')::φr) (AV.cuts (n m') ja) a2:=⟨by rw[zCG];exact h2.len,fun t c x hc hx=>by
    rw[zBo]at hc
    obtain⟨c0,h0,rfl⟩:=Option.map_eq_some_iff.1 hc
    exact(h2.at_ t c0 x h0 hx).cut⟩
   exact⟨μ m',hlt,m',pc,l2.take (n m')::φr,Fe,rfl,qf.wk (zEM Lh),zEH (zDt h3 (n m')) (zEN ud),zEt Ra Ge,by rw[<-vo];exact h5.cut⟩
  |_=>exact⟨ja,S',Hc,pc,φ2,h1,h2,h3,hs.trans h4,h5⟩
 | .scope _,Q,Pr,φ,fr,a,S,ds,w,h,hR,hne,hd,hk=>hk.elim
 | .rangeFunc _ _ _ _,Q,Pr,φ,fr,a,S,ds,w,h,hR,hne,hd,hk=>hk.elim
 | .goto _,Q,Pr,φ,fr,a,S,ds,w,h,hR,hne,hd,hk=>hk.elim
 | .refuse _,Q,Pr,φ,fr,a,S,ds,w,h,hR,hne,hd,hk=>hk.elim
def zRb:Exit->Option FrameMode
 | .normal=>some .returning
 | .ret=>some .returning
 | .panic l=>some (.panicking l)
 |_=>none
def zZn(P:Program)(rs:List ResultVar)(r:AV)(S':ASt):Exit->List AV->ASt->List AV->Prop:=fun e fr S1 ds=>
 ∃u,zRb e=some u/\∃S2 vs,zJ2 P ds u S1 S2/\resA P fr S2 rs=some vs/\(retA vs).down 1=some r/\S2.tail=S'
theorem ADet.introRv{K:FuncId}{args:List AV}{r:AV}{S S':ASt}{fn:Func}{c:Code}(hm:P.follows .mixedOrders=true)(hK:∀xs w,(callFunc K xs).run P w= .ok (.enter K xs) w)(hf:P.funcs[K]? =some fn)(hb:fn.body=some c)
  (h:zD3 P c (AV.ups 1 args++List.replicate (fn.ntmps-args.length) .un) ([]::S) [] (zZn P fn.results.toList r S')):ADet P K args S r S':=by
 refine⟨hK,fun Pr φ xs w da hR hne=>?_⟩
 refine calls_of_wp_defers hf hb ?_;refine wp_mono (zD4 hm c _ Pr ([]::φ) _ _ ([]::S) [] w (zD0 da) (zCS hR) (by simp) trivial h) fun e a' w' hp=>?_
 obtain⟨ja,S1,ds,Pr',φ',⟨u,he,S2,vs,ta,bc,hr,h3⟩,h4,h5,h6,h7⟩:=hp
 have key:Leaves P fn a'.tmps (fun e w'=>∃x Pr' φ',e= .returned x/\Stp Pr φ w Pr' φ' w'/\Rel Pr' φ' S' w'/\RA Pr' φ' r x) a'.defers u w':=by
  refine zGq (P:=P) (Pr0:=Pr) (φ0:=[]::φ) (w0:=w) (S':=S2) bc (fun pc φ2 w2 x s2 r2 hx=>?_) ds a'.defers u Pr' φ' S1 w' h7 h4 h5 (zL h6 (by simp)) h6 ta
  have Db:φ2≠ []:=zL s2 (by simp)
  obtain⟨l',φ1,rfl⟩:=List.exists_cons_of_ne_nil Db
  have tc:S2≠ []:=fun h0=>by have:=r2.shape;rw[h0]at this;simp at this
  obtain⟨L',S3,rfl⟩:=List.exists_cons_of_ne_nil tc
  simp only[List.tail_cons]at h3;subst h3;exact⟨x,pc,φ1,rfl,zCq s2,zB9 r2,hx.down r hr⟩
 cases e with
 |normal=>cases he;exact key
 |ret=>cases he;exact key
 |panic l=>cases he;exact key
 |exit _=>cases he
 |goto _=>cases he
 |outgrown=>cases he
end
section
variable{P:Program}{fr:List AV}{S:ASt}{ds:List AV}{Q:Exit->List AV->ASt->List AV->Prop}
def zRc(P:Program)(b:Code)(Q:Exit->List AV->ASt->List AV->Prop)(e:Exit)(fr:List AV)(S:ASt)(ds:List AV):Prop:=match e with| .normal=>zD3 P b fr S ds Q|e=>Q e fr S ds
theorem zLJ(b:Code):zRc P b Q .normal fr S ds=zD3 P b fr S ds Q:=rfl
theorem zOy(b:Code)(j:Nat):zRc P b Q (.exit j) fr S ds=Q (.exit j) fr S ds:=rfl
theorem zRd(b:Code):zRc P b Q .ret fr S ds=Q .ret fr S ds:=rfl
theorem zLK(id:Nat)(ops:Array Oper)(rb:Bool):zD3 P (.region id ops rb) fr S ds Q=if(ops.toList.any zFU&& !rb)=true then zAo P ops ops.toList fr S ds (Q .normal)else zBV P (.region id ops rb) fr S (zRS ds Q):=by rw[zD3]<;>rfl
theorem zRe(a b:Code):zD3 P (.seq a b) fr S ds Q=zD3 P a fr S ds (zRc P b Q):=by rw[zD3]<;>congr 1
theorem zRf:zD3 P .ret fr S ds Q=Q .ret fr S ds:=by rw[zD3]
theorem zMQ(b:Code)(l:List PanicEntry):zRc P b Q (.panic l) fr S ds=Q (.panic l) fr S ds:=rfl
theorem zMR(i:Nat)(l:List PanicEntry):zRR i Q (.panic l) fr S ds=Q (.panic l) fr S ds:=rfl
theorem zUZ{rs:List ResultVar}{r:AV}{S':ASt}(e:Exit):zZn P rs r S' e fr S ds=∃u,zRb e=some u/\∃S2 vs,zJ2 P ds u S S2/\resA P fr S2 rs=some vs/\(retA vs).down 1=some r/\S2.tail=S':=rfl
theorem zRg{u:FrameMode}{S':ASt}:zJ2 P [] u S S'=(u= .returning/\S=S'):=by rw[zJ2]
theorem zOz{u:FrameMode}{S':ASt}(K:FuncId)(la lb vs:List AV):zJ2 P (.fn (.func K) la lb::vs) u S S'=(u≠ .run/\∃u' S1,zLI P K (la++lb) S u u' S1/\zJ2 P vs (settle u') S1 S'):=by rw[zJ2]
end
end Go.Proofs.YtdflkegnmmkkoaaGreatDoor
