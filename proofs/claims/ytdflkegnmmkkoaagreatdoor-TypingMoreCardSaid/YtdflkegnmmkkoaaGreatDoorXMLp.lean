/- A part of the proof. -/
import Derived.Test.YtdflkegnmmkkoaaGreatDoorXMLd
import Derived.Recover
set_option linter.unusedVariables false
set_option linter.unusedSimpArgs false
set_option maxRecDepth 100000
set_option maxHeartbeats 32000000
namespace Go.Proofs.YtdflkegnmmkkoaaGreatDoor
open Go.RowKit
def zDI(v:Value):List PanicEntry:=[{v,recovered:=false}]
inductive ARes where
 |ret (r:AV)|thr (v:Value)
def ARes.fits(Pr:Prot)(φ:Fi2):ARes->Ending->Prop
 | .ret r,e=>∃x,e= .returned x/\RA Pr φ r x
 | .thr v,e=>e= .panicked (zDI v)
def zM(P:Program)(K:FuncId)(args:List AV)(S:ASt)(gc:ARes)(S':ASt):Prop:=
 (∀xs w,(callFunc K xs).run P w= .ok (.enter K xs) w)/\∀Pr φ (xs:Array Value) w,RL Pr φ args xs->Rel Pr φ S w->φ≠ []->
  Calls P K xs w fun e w'=>∃Pr' φ',gc.fits Pr' φ' e/\Stp Pr φ w Pr' φ' w'/\Rel Pr' φ' S' w'
section
variable{P:Program}{K:FuncId}{args:List AV}{S S':ASt}
theorem ADet.call{r:AV}(h:ADet P K args S r S'):zM P K args S (.ret r) S':=
 ⟨h.1,fun Pr φ xs w h1 h2 h3=>(h.2 Pr φ xs w h1 h2 h3).mono fun e w' he=>by
  obtain⟨x,Pr',φ',rfl,s1,s2,s3⟩:=he
  exact⟨Pr',φ',⟨x,rfl,s3⟩,s1,s2⟩⟩
theorem zM.det{r:AV}(h:zM P K args S (.ret r) S'):ADet P K args S r S':=
 ⟨h.1,fun Pr φ xs w h1 h2 h3=>(h.2 Pr φ xs w h1 h2 h3).mono fun e w' he=>by
  obtain⟨Pr',φ',⟨x,rfl,s3⟩,s1,s2⟩:=he
  exact⟨x,Pr',φ',rfl,s1,s2,s3⟩⟩
theorem zLW{Pr:Prot}{φ:Fi2}{o:Oper}{fr:List AV}{a:Act}{w:World}{v:Value}(h:RF Pr φ fr a)(hR:Rel Pr φ S w)(hne:φ≠ [])(hc:zC0 o fr=some (K,args))(hd:zM P K args S (.thr v) S'){next:Act->World->Prop}{Q:Exit->Act->World->Prop}
  (hk:∀w' Pr' φ',Stp Pr φ w Pr' φ' w'->Rel Pr' φ' S' w'->Q (.panic (zDI v)) a w'):o.wp P a w next Q:=by
 unfold zC0 at hc;split at hc
 .rename_i c ho
  split at hc
  .rename_i f hf
   split at hc
   .rename_i K' fsts caps he
    cases hc
    obtain⟨hK,hd⟩:=hd
    have jg:=h.ev f
    rw[he]at jg
    generalize hy:a.eval f=y at jg
    cases jg with
    | @fn _ _ _ xs ys l1 l2 c1 c2=>
     have da:RL Pr φ (fsts++(c.args.toList.map (evA fr)++caps)) (xs++(c.args.map a.eval++ys)):=by
      refine RL.append ⟨l1,c1⟩ (RL.append ⟨by simp,fun j q x hq hx=>?_⟩ ⟨l2,c2⟩)
      rw[List.getElem?_map]at hq
      obtain⟨q0,h0,rfl⟩:=Option.map_eq_some_iff.1 hq
      have ga:c.args[j]? =some q0:=by simpa using h0
      rw[Array.getElem?_map,ga]at hx;cases hx;exact h.ev _
     have ua:(execOp a.eval o).run P w= .ok (.enter K (xs++(c.args.map a.eval++ys))) w:=by
      simp[execOp,ho,resolve,hf,hy,Deferred.ofValue,invoke,hK,Array.append_assoc]
     simp only[Oper.wp,ua,Oper.upon];refine(hd Pr φ _ w da hR hne).mono fun e w' he=>?_
     obtain⟨Pr',φ',hf,s1,s2⟩:=he
     cases hf;exact hk w' Pr' φ' s1 s2
   cases hc
  cases hc
 cases hc
end
def zCe(o:Oper)(fr:List AV):Option Value:=
 match o.op with
 | .panic x=>
  match evA fr x with
  | .p (.v (.iface t v))=>some (.iface t v)
  |_=>none
 |_=>none
theorem zRn{P:Program}{Pr:Prot}{φ:Fi2}{o:Oper}{fr:List AV}{a:Act}{w:World}{v:Value}(h:RF Pr φ fr a)(hp:zCe o fr=some v){next:Act->World->Prop}{Q:Exit->Act->World->Prop}(hk:Q (.panic (zDI v)) a w):o.wp P a w next Q:=by
 unfold zCe at hp;split at hp
 .rename_i x hop
  split at hp
  .rename_i t u he
   cases hp
   have hy:=zS (h.ev x) (by rw[he];rfl)
   have ua:(execOp a.eval o).run P w= .halt (.panic (.iface t u)) w:=by
    simp[execOp,hop,hy,Instr.panic]
   simp only[Oper.wp,ua,Oper.upon];exact hk
  cases hp
 cases hp
def zBL(P:Program)(ops:Array Oper):List Oper->List AV->ASt->(Exit->List AV->ASt->Prop)->Prop
 | [],fr,S,Q=>Q .normal fr S
 |o::os,fr,S,Q=>
  match zBs ops o fr with
  |some true=>
   match zCe o fr with
   |some v=>Q (.panic (zDI v)) fr S
   |none=>
    match zC0 o fr with
    |some (F,args)=>∃gc S',zM P F args S gc S'/\match gc with
     | .ret r=>zBL P ops os (putA fr o.dst r) S' Q
     | .thr v=>Q (.panic (zDI v)) fr S'
    |none=>
     match zD8 P o fr S with
     |some (v,S')=>zBL P ops os (putA fr o.dst v) S' Q
     |none=>False
  |some false=>zBL P ops os (putA fr o.dst .un) S Q
  |none=>False
theorem zFj{P:Program}{ops:Array Oper}{Q:Exit->List AV->ASt->Prop}{Pr0:Prot}{φ0:Fi2}{a0:Act}{w0:World}:∀(os:List Oper) (i:Nat),ops.toList.drop i=os->∀(Pr:Prot) (φ:Fi2) (fr:List AV) (a:Act) (S:ASt) (w:World),RF Pr φ fr a->Rel Pr φ S w->φ≠ []->Stp Pr0 φ0 w0 Pr φ w->a.defers=a0.defers->zBL P ops os fr S Q->
  wpOps P ops (Post Pr0 φ0 a0 w0 Q) (List.range' i os.length) a w
 | [],i,hi,Pr,φ,fr,a,S,w,h,hR,hne,Md,hd0,hk=>⟨fr,S,Pr,φ,hk,h,hR,Md,hd0⟩
 |o::os,i,hi,Pr,φ,fr,a,S,w,h,hR,hne,Md,hd0,hk=>by
  have ho:ops[i]? =some o:=by
   have:(ops.toList.drop i)[0]? =some o:=by rw[hi];rfl
   rw[List.getElem?_drop]at this
   simpa using this
  have Pd:ops.toList.drop (i+1)=os:=by rw[<-List.drop_drop,hi];rfl
  simp only[List.length_cons,List.range'_succ];rw[wpOps_cons];unfold wpOp;rw[ho];simp only[zBL]at hk
  have step:∀{v:AV} {S':ASt},Stepped P o fr S v S'->zBL P ops os (putA fr o.dst v) S' Q->o.wp P a w (wpOps P ops (Post Pr0 φ0 a0 w0 Q) (List.range' (i+1) os.length)) (Post Pr0 φ0 a0 w0 Q):=fun hs Ga=>
   zAp h hR hne hs fun x w' Pr' φ' s1 s2 s3=>zFj os (i+1) Pd Pr' φ' _ _ _ w' ((h.mono s1.pl s1.fl).put o.dst s3) s2 (zP s1 hne) (Md.trans s1) ((zAW _ _ _).trans hd0) Ga
  split at hk
  .rename_i hw
   simp only[zBT h hw,if_true];refine .inl ?_;split at hk
   .rename_i v hp
    exact zRn h hp ⟨fr,S,Pr,φ,hk,h,hR,Md,hd0⟩
   split at hk
   .rename_i F args hc
    obtain⟨gc,S',h1,h2⟩:=hk
    cases gc with
    |ret r=>exact step (zD9 hc h1.det) h2
    |thr v=>exact zLW h hR hne hc h1 fun w' Pr' φ' s1 s2=>⟨fr,S',Pr',φ',h2,h.mono s1.pl s1.fl,s2,Md.trans s1,hd0⟩
   split at hk
   .rename_i v S' hs
    exact step (zHT hs) hk
   exact hk.elim
  .rename_i hw
   simp only[zBT h hw,Bool.false_eq_true,if_false];exact zFj os (i+1) Pd Pr φ _ _ S w (h.put o.dst (Pr:=Pr) (φ:=φ) (v:=.un) (x:=undef) .un) hR hne Md ((zAW _ _ _).trans hd0) hk
  exact hk.elim
def zBY(P:Program):Code->List AV->ASt->(Exit->List AV->ASt->Prop)->Prop
 | .skip,fr,S,Q=>Q .normal fr S
 | .region _ ops kb,fr,S,Q=>if kb=true then zEA P ops fr S Q else zBL P ops ops.toList fr S Q
 | .seq a b,fr,S,Q=>zBY P a fr S fun e fr S=>
  match e with
  | .normal=>zBY P b fr S Q
  |e=>Q e fr S
 | .cond c t e,fr,S,Q=>
  match evA fr c with
  | .p (.v (.bool b))=>if b=true then zBY P t fr S Q else zBY P e fr S Q
  |_=>False
 | .block id body,fr,S,Q=>zBY P body fr S fun e fr S=>
  match e with
  | .exit j=>if j=id then Q .normal fr S else Q (.exit j) fr S
  |e=>Q e fr S
 | .loop body,fr,S,Q=>zXV (zBY P body) fr S Q
 | .exit id,fr,S,Q=>Q (.exit id) fr S
 | .label _,fr,S,Q=>Q .normal fr S
 | .ret,fr,S,Q=>Q .ret fr S
 |_,_,_,_=>False
theorem zDA{P:Program}(hm:P.follows .mixedOrders=true):∀(c:Code) (Q:Exit->List AV->ASt->Prop) (Pr:Prot) (φ:Fi2) (fr:List AV) (a:Act) (S:ASt) (w:World),RF Pr φ fr a->Rel Pr φ S w->φ≠ []->zBY P c fr S Q->c.wp P (Post Pr φ a w Q) a w
 | .skip,Q,Pr,φ,fr,a,S,w,h,hR,hne,hk=>wp_skip ⟨fr,S,Pr,φ,hk,h,hR,Stp.refl _ _ _,rfl⟩
 | .label l,Q,Pr,φ,fr,a,S,w,h,hR,hne,hk=>wp_label ⟨fr,S,Pr,φ,hk,h,hR,Stp.refl _ _ _,rfl⟩
 | .exit id,Q,Pr,φ,fr,a,S,w,h,hR,hne,hk=>wp_exit ⟨fr,S,Pr,φ,hk,h,hR,Stp.refl _ _ _,rfl⟩
 | .ret,Q,Pr,φ,fr,a,S,w,h,hR,hne,hk=>wp_ret ⟨fr,S,Pr,φ,hk,h,hR,Stp.refl _ _ _,rfl⟩
 | .region id ops kb,Q,Pr,φ,fr,a,S,w,h,hR,hne,hk=>by
  cases kb with
  |true=>
   have dc:zEA P ops fr S Q:=hk
   obtain⟨s1,r1⟩:=zHS hR (w.drawn+1)
   exact wp_region_any hm (dc Pr φ a w Pr φ a _ h r1 hne s1 rfl)
  |false=>
   have dc:zBL P ops ops.toList fr S Q:=hk
   refine wp_region ?_
   have:=zFj (Q:=Q) ops.toList 0 rfl Pr φ fr a S w h hR hne (Stp.refl _ _ _) rfl dc
   rwa [List.range_eq_range',<-Array.length_toList]
 | .seq x y,Q,Pr,φ,fr,a,S,w,h,hR,hne,hk=>by
  refine wp_seq (wp_mono (zDA hm x _ Pr φ fr a S w h hR hne hk) fun e a' w' hp=>?_)
  obtain⟨ja,S',Pr',φ',h1,h2,h3,h4,h5⟩:=hp
  cases e with
  |normal=>exact wp_mono (zDA hm y Q Pr' φ' ja a' S' w' h2 h3 (zP h4 hne) h1) fun e Eh Fh hp=>Post.trans h4 h5 e Eh Fh hp
  |_=>exact⟨ja,S',Pr',φ',h1,h2,h3,h4,h5⟩
 | .cond c t e,Q,Pr,φ,fr,a,S,w,h,hR,hne,hk=>by
  simp only[zBY]at hk;split at hk
  .rename_i b hb
   have hc:=zS (h.ev c) (by rw[hb];rfl)
   refine wp_cond hc ?_
   cases b with
   |true=>exact zDA hm t Q Pr φ fr a S w h hR hne hk
   |false=>exact zDA hm e Q Pr φ fr a S w h hR hne hk
  exact hk.elim
 | .block id body,Q,Pr,φ,fr,a,S,w,h,hR,hne,hk=>by
  refine wp_block (wp_mono (zDA hm body _ Pr φ fr a S w h hR hne hk) fun e a' w' hp=>?_)
  obtain⟨ja,S',Pr',φ',h1,h2,h3,h4,h5⟩:=hp
  cases e with
  |exit j=>
   simp only[Exit.inBlock];simp only at h1;split
   .rename_i hj
    rw[if_pos hj]at h1;exact⟨ja,S',Pr',φ',h1,h2,h3,h4,h5⟩
   rename_i hj
   rw[if_neg hj]at h1
   exact⟨ja,S',Pr',φ',h1,h2,h3,h4,h5⟩
  |_=>exact⟨ja,S',Pr',φ',h1,h2,h3,h4,h5⟩
 | .loop body,Q,Pr,φ,fr,a,S,w,h,hR,hne,hk=>by
  obtain⟨α,I,F,G,μ,a0,n,hI,hw,hn,hb⟩:=hk
  obtain⟨φs,s0,Rb,tf,pa⟩:=hw Pr φ a w h hR hne
  have hn2:top φs=top (G a0):=zB1 tf.shape
  refine wp_loop_ghost (fun k a1 w1=>∃m Ab φ1,I m/\μ m=k/\RF Ab φ1 (F m) a1/\Rel Ab φ1 (G m) w1/\Stp Pr φ w Ab φ1 w1/\a1.defers=a.defers) (μ a0) ⟨a0,Pr,φs,hI,rfl,Rb,tf,s0,rfl⟩ ?_
  rintro k a1 w1 ⟨m,Ab,φ1,Gh,rfl,hf,hr,hs,hd⟩
  refine wp_mono (zDA hm body _ Ab φ1 (F m) a1 (G m) w1 hf hr (zP hs hne) (hb m Gh)) fun e a2 w2 hp=>?_
  obtain⟨ja,S',qc,φ2,h1,h2,h3,h4,h5⟩:=hp
  cases e with
  |normal=>
   obtain⟨m',Ce,hlt,Hh,kg⟩:=h1
   have Ra:=hs.trans h4
   have vc:φ2≠ []:=zP Ra hne
   obtain⟨l2,φr,rfl⟩:=List.exists_cons_of_ne_nil vc
   obtain⟨l0,φ0,rfl⟩:=List.exists_cons_of_ne_nil hne
   have uf:S'≠ []:=fun h0=>by have:=h3.shape;rw[h0]at this;simp at this
   obtain⟨L',SR,rfl⟩:=List.exists_cons_of_ne_nil uf
   have ud:l0.length<=n m':=Nat.le_trans (Nat.le_trans pa (Nat.le_of_eq hn2)) (hn m' Ce)
   have lf:RF qc (l2.take (n m')::φr) (AV.cuts (n m') ja) a2:=⟨by rw[zCM];exact h2.len,fun t c x hc hx=>by
    rw[zBx]at hc
    obtain⟨c0,h0,rfl⟩:=Option.map_eq_some_iff.1 hc
    exact(h2.at_ t c0 x h0 hx).cut⟩
   exact⟨μ m',hlt,m',qc,l2.take (n m')::φr,Ce,rfl,lf.wk (zEa Hh),zEZ (zD7 h3 (n m')) (zEb kg),zE7 Ra ud,h5.trans hd⟩
  |_=>exact⟨ja,S',qc,φ2,h1,h2,h3,hs.trans h4,h5.trans hd⟩
 | .scope _,Q,Pr,φ,fr,a,S,w,h,hR,hne,hk=>hk.elim
 | .rangeFunc _ _ _ _,Q,Pr,φ,fr,a,S,w,h,hR,hne,hk=>hk.elim
 | .goto _,Q,Pr,φ,fr,a,S,w,h,hR,hne,hk=>hk.elim
 | .refuse _,Q,Pr,φ,fr,a,S,w,h,hR,hne,hk=>hk.elim
def zYG(P:Program)(rs:List ResultVar)(gc:ARes)(S':ASt)(e:Exit)(fr:List AV)(S1:ASt):Prop:=
 match gc with
 | .ret r=>zOz P rs r S' e fr S1
 | .thr v=>e= .panic (zDI v)/\S1.tail=S'
section
variable{P:Program}{K:FuncId}{args:List AV}{S S':ASt}
theorem zM.intro{gc:ARes}{fn:Func}{c:Code}(hm:P.follows .mixedOrders=true)(hK:∀xs w,(callFunc K xs).run P w= .ok (.enter K xs) w)(hf:P.funcs[K]? =some fn)(hb:fn.body=some c)
  (h:zBY P c (AV.ups 1 args++List.replicate (fn.ntmps-args.length) .un) ([]::S) (zYG P fn.results.toList gc S')):zM P K args S gc S':=by
 refine⟨hK,fun Pr φ xs w da hR hne=>?_⟩
 refine calls_of_wp hf hb ?_
 have ub:RF Pr ([]::φ) (AV.ups 1 args++List.replicate (fn.ntmps-args.length) .un) {tmps:=xs++Array.replicate (fn.ntmps-xs.size) undef,defers:=[]}:=by
  refine⟨by simp[zA0,da.1],fun t v x hv hx=>?_⟩
  rcases Nat.lt_or_ge t args.length with ht|ht
  .rw[List.getElem?_append_left (by rw[zA0];exact ht),zCO]at hv
   obtain⟨v0,h0,rfl⟩:=Option.map_eq_some_iff.1 hv
   simp only at hx;rw[Array.getElem?_append_left (by rw[<-da.1];exact ht)]at hx
   exact RA.up (k:=1) (da.2 t v0 x h0 hx)
  rw[List.getElem?_append_right (by rw[zA0];exact ht)]at hv
  simp only at hx;rw[Array.getElem?_append_right (by rw[<-da.1];exact ht)]at hx
  rw[List.getElem?_replicate]at hv;rw[Array.getElem?_replicate]at hx;split at hv
  .split at hx
   .cases hv;cases hx;exact .un
   cases hx
  cases hv
 refine wp_mono (zDA hm c _ Pr ([]::φ) _ _ ([]::S) w ub (zC8 hR) (by simp) h) fun e a' w' hp=>?_
 obtain⟨ja,S1,Pr',φ',hq,h4,h5,h6,h7⟩:=hp
 have Vb:φ'≠ []:=zP h6 (by simp)
 obtain⟨l',φ1,rfl⟩:=List.exists_cons_of_ne_nil Vb
 have Ic:S1≠ []:=fun h0=>by have:=h5.shape;rw[h0]at this;simp at this
 obtain⟨L',S2,rfl⟩:=List.exists_cons_of_ne_nil Ic
 cases gc with
 |ret r=>
  obtain⟨he,vs,h1,h2,h3⟩:=hq
  obtain⟨x,hx,ua⟩:=zCp (P:=P) (fn:=fn) h4 h5 h1
  simp only[List.tail_cons]at h3;subst h3
  have key:a'.defers=[]/\∃v,(results fn a'.tmps).run P w'= .ok v w'/\∃Pr' φ',(ARes.ret r).fits Pr' φ' (.returned v)/\Stp Pr φ w Pr' φ' w'/\Rel Pr' φ' S2 w':=
   ⟨h7,x,ua,Pr',φ1,⟨x,rfl,hx.down r h2⟩,zDk h6,zCP h5⟩
  rcases he with rfl|rfl
  .exact key
  exact key
 |thr v=>
  obtain⟨rfl,h3⟩:=hq
  simp only[List.tail_cons]at h3;subst h3;exact⟨h7,Pr',φ1,rfl,zDk h6,zCP h5⟩
theorem zM.assume{gc:ARes}{p:Prop}(hK:∀xs w,(callFunc K xs).run P w= .ok (.enter K xs) w)(hp:∀(Pr:Prot) (φ:Fi2) (xs:Array Value),RL Pr φ args xs->p)(h:p->zM P K args S gc S'):zM P K args S gc S':=
 ⟨hK,fun Pr φ xs w da hR hne=>(h (hp Pr φ xs da)).2 Pr φ xs w da hR hne⟩
theorem zM.okP{gc:ARes}{p:PV}(hK:∀xs w,(callFunc K xs).run P w= .ok (.enter K xs) w)(j:Nat)(hj:args[j]? =some (.p p))(h:PVok p->zM P K args S gc S'):zM P K args S gc S':=
 zM.assume hK (fun Pr φ xs hx=>by
  obtain⟨x,h1⟩:=zMS hx hj
  cases h1 with
  |p h2=>exact⟨Pr,x,h2⟩) h
theorem zM.okA{gc:ARes}{cs:List AV}{p:PV}(hK:∀xs w,(callFunc K xs).run P w= .ok (.enter K xs) w)(j i:Nat)(hj:args[j]? =some (.agg cs))(hi:cs[i]? =some (.p p))(h:PVok p->zM P K args S gc S'):zM P K args S gc S':=
 zM.assume hK (fun Pr φ xs hx=>by
  obtain⟨x,h1⟩:=zMS hx hj
  obtain⟨y,h2⟩:=zXW h1 hi
  cases h2 with
  |p h3=>exact⟨Pr,y,h3⟩) h
end
section
variable{P:Program}{fr:List AV}{S:ASt}{Q:Exit->List AV->ASt->Prop}
def zRo(P:Program)(b:Code)(Q:Exit->List AV->ASt->Prop)(e:Exit)(fr:List AV)(S:ASt):Prop:=match e with| .normal=>zBY P b fr S Q|e=>Q e fr S
theorem zx(b:Code):zRo P b Q .normal fr S=zBY P b fr S Q:=rfl
theorem zAe(b:Code)(j:Nat):zRo P b Q (.exit j) fr S=Q (.exit j) fr S:=rfl
theorem zBA(b:Code):zRo P b Q .ret fr S=Q .ret fr S:=rfl
theorem zAH(b:Code)(l:List PanicEntry):zRo P b Q (.panic l) fr S=Q (.panic l) fr S:=rfl
theorem zAf(i:Nat)(l:List PanicEntry):BlkQ i Q (.panic l) fr S=Q (.panic l) fr S:=rfl
theorem zAg:zBY P .skip fr S Q=Q .normal fr S:=by rw[zBY]
theorem zy(id:Nat)(ops:Array Oper):zBY P (.region id ops false) fr S Q=zBL P ops ops.toList fr S Q:=by rw[zBY,if_neg (by simp)]
theorem zX{id:Nat}{ops:Array Oper}(h:awp P (.region id ops true) fr S Q):zBY P (.region id ops true) fr S Q:=by
 rw[zBY,if_pos rfl]
 rwa [awp,if_pos rfl]at h
theorem zBB(a b:Code):zBY P (.seq a b) fr S Q=zBY P a fr S (zRo P b Q):=by rw[zBY]<;>congr 1
theorem zAh(c:Operand)(t e:Code):zBY P (.cond c t e) fr S Q=(match evA fr c with| .p (.v (.bool b))=>if b=true then zBY P t fr S Q else zBY P e fr S Q|_=>False):=by rw[zBY]<;>rfl
theorem zAI(id:Nat)(c:Code):zBY P (.block id c) fr S Q=zBY P c fr S (BlkQ id Q):=by rw[zBY]<;>congr 1
theorem zAi(id:Nat):zBY P (.exit id) fr S Q=Q (.exit id) fr S:=by rw[zBY]
theorem zBC:zBY P .ret fr S Q=Q .ret fr S:=by rw[zBY]
theorem z5{ops:Array Oper}:zBL P ops [] fr S Q=Q .normal fr S:=by rw[zBL]
@[reducible] def CallPn (P : Program) (F : Nat) (args : List AV) (S : ASt) (K : ARes -> ASt -> Prop) : Prop:=∃ gc S',zM P F args S gc S' /\ K gc S'
def zRp(P:Program)(ops:Array Oper)(os:List Oper)(fr:List AV)(dst:Option Nat)(Q:Exit->List AV->ASt->Prop)(gc:ARes)(S:ASt):Prop:=match gc with
 | .ret r=>zBL P ops os (putA fr dst r) S Q
 | .thr v=>Q (.panic (zDI v)) fr S
theorem zAj{ops:Array Oper}(os:List Oper)(dst:Option Nat)(r:AV):zRp P ops os fr dst Q (.ret r) S=zBL P ops os (putA fr dst r) S Q:=rfl
theorem zAk{ops:Array Oper}(os:List Oper)(dst:Option Nat)(v:Value):zRp P ops os fr dst Q (.thr v) S=Q (.panic (zDI v)) fr S:=rfl
theorem zo{ops:Array Oper}(o:Oper)(os:List Oper):zBL P ops (o::os) fr S Q=(match zBs ops o fr with
  |some true=>
   match zCe o fr with
   |some v=>Q (.panic (zDI v)) fr S
   |none=>
    match zC0 o fr with
    |some (F,args)=>CallPn P F args S (zRp P ops os fr o.dst Q)
    |none=>
     match zD8 P o fr S with
     |some (v,S')=>zBL P ops os (putA fr o.dst v) S' Q
     |none=>False
  |some false=>zBL P ops os (putA fr o.dst .un) S Q
  |none=>False):=by rw[zBL]<;>rfl
theorem zBD{rs:List ResultVar}{r:AV}{S':ASt}(e:Exit):zYG P rs (.ret r) S' e fr S=zOz P rs r S' e fr S:=rfl
theorem zBE{rs:List ResultVar}{v:Value}{S':ASt}(e:Exit):zYG P rs (.thr v) S' e fr S=(e= .panic (zDI v)/\S.tail=S'):=rfl
theorem CallPn.det{F:Nat}{args:List AV}{K:ARes->ASt->Prop}(h:CallQ P F args S fun r S'=>K (.ret r) S'):CallPn P F args S K:=by
 obtain⟨r,S',h1,h2⟩:=h
 exact⟨_,_,h1.call,h2⟩
end
section
variable{α:Type}{I:α->Prop}{F:α->List AV}{G:α->ASt}{μ:α->Nat}{m n:Nat}{Q:Exit->List AV->ASt->Prop}{ja:List AV}{S':ASt}
theorem zAR(l:List PanicEntry):zKF I F G μ m n Q (.panic l) ja S'=Q (.panic l) ja S':=rfl
theorem zAS{n:α->Nat}(l:List PanicEntry):zLD I F G μ m n Q (.panic l) ja S'=Q (.panic l) ja S':=rfl
end
theorem zBq{P:Program}{fr:List AV}{S:ASt}{Q:Exit->List AV->ASt->Prop}{body:Code}{α:Type}(I:α->Prop)(F:α->List AV)(G:α->ASt)(μ:α->Nat)(a0:α)(h0:I a0)(hF:wkR fr (F a0))(hG:wkT S (G a0))(h:∀a,I a->zBY P body (F a) (G a) (zKF I F G μ (μ a) (top (G a0)) Q)):zBY P (.loop body) fr S Q:=⟨α,I,F,G,μ,a0,fun _=>top (G a0),h0,.wk hF hG,fun _ _=>Nat.le_refl _,h⟩
theorem zp{P:Program}{fr:List AV}{L:List AObj}{R:ASt}{Q:Exit->List AV->ASt->Prop}{body:Code}{α:Type}(E:TypeId)(k:Nat)(hk:0<k)(L':List AObj)(I:α->Prop)(F:α->List AV)(G:α->ASt)(μ:α->Nat)(a0:α)(h0:I a0)(ub:wkNR k L.length fr (F a0))(hL:wkNL k L.length L L')(hG:G a0=((L'++[.tok E k 0])::R))(h:∀a,I a->zBY P body (F a) (G a) (zKF I F G μ (μ a) (top (G a0)) Q)):zBY P (.loop body) fr (L::R) Q:=⟨α,I,F,G,μ,a0,fun _=>top (G a0),h0,by rw[hG];exact zF4.ghost E k hk ub hL,fun _ _=>Nat.le_refl _,h⟩
end Go.Proofs.YtdflkegnmmkkoaaGreatDoor
namespace Go.Proofs.YtdflkegnmmkkoaaGreatDoor
open Go.RowKit
def cutO(cs:List Nat)(k:Nat)(o:Oper):Oper:=if cs.contains k=true then {o with op:=.move (.global 0),dst:=none,guard:=none}else o
def cutL(cs:List Nat):Nat->List Oper->List Oper
 |_,[]=>[]
 |k,o::os=>cutO cs k o::cutL cs (k+1) os
theorem zNs(cs:List Nat):∀(os:List Oper) (k i:Nat),(cutL cs k os)[i]? =(os[i]?).map (cutO cs (k+i))
 | [],k,i=>by simp[cutL]
 |o::os,k,0=>by simp[cutL]
 |o::os,k,i+1=>by
  simp only[cutL,List.getElem?_cons_succ];rw[zNs cs os (k+1) i]
  congr 2
  omega
theorem zNt(cs:List Nat):∀(os:List Oper) (k:Nat),(cutL cs k os).length=os.length
 | [],k=>rfl
 |o::os,k=>by simp[cutL,zNt cs os]
def cutR(cs:List Nat)(ops:Array Oper):Array Oper:=(cutL cs 0 ops.toList).toArray
def zU7(i0:Nat)(cs:List Nat)(ops:Array Oper):Bool:=
 let M:=zO4 (cutR cs ops).toList []
 match ops[i0]? with
 |none=>false
 |some o0=>cs.contains i0&&(cs.all fun k=>k==i0||(M.getD k 0).testBit i0)&&
  (ops.toList.zipIdx.all fun q=>cs.contains q.2||(
   (zA9 q.1 !=2||(M.getD i0 0).testBit q.2)&&
   (match q.1.dst with|some t=>!(o0.looksAt ops).contains t||(M.getD i0 0).testBit q.2|none=>true)&&
   (match q.1.guard with|some g=>!cs.contains g.1|none=>true)))
section
variable{P:Program}{ops:Array Oper}{cs:List Nat}{i0:Nat}
theorem zBM(i:Nat):(cutR cs ops)[i]? =(ops[i]?).map (cutO cs i):=by
 unfold cutR;rw[List.getElem?_toArray,zNs,Nat.zero_add,Array.getElem?_toList]
theorem zGA:(cutR cs ops).size=ops.size:=by simp[cutR,zNt]
theorem zRq{k:Nat}{o:Oper}(h:cs.contains k=true):cutO cs k o={o with op:=.move (.global 0),dst:=none,guard:=none}:=by
 rw[cutO,if_pos h]
theorem zHY{k:Nat}{o:Oper}(h:cs.contains k=false):cutO cs k o=o:=by
 rw[cutO,if_neg (by rw[h];decide)]
theorem zO9{k:Nat}{o:Oper}:(cutO cs k o).after=o.after:=by
 unfold cutO;split<;>rfl
theorem zRr(ba:Array Bool):Region.ready .any ops ba=Region.ready .any (cutR cs ops) ba:=by
 unfold Region.ready;rw[zGA];refine List.filter_congr fun j hj=>?_
 rw[zBM]
 cases ops[j]? with
 |none=>rfl
 |some x=>simp only[Option.map_some,zO9]
theorem zPA{o:Oper}(hg:∀g b,o.guard=some (g,b)->cs.contains g=false)(ts:Array Value):Region.wanted o (yielded (cutR cs ops) ts)=Region.wanted o (yielded ops ts):=by
 have e:∀g,cs.contains g=false->yielded (cutR cs ops) ts g=yielded ops ts g:=fun g h=>by
  unfold yielded
  have:((cutR cs ops)[g]?).bind (·.dst)=(ops[g]?).bind (·.dst):=by
   rw[zBM]
   cases ops[g]? with
   |none=>rfl
   |some x=>rw[Option.map_some,zHY h]
  rw[this]
 unfold Region.wanted
 cases Zl:o.guard with
 |none=>rfl
 |some g=>
  obtain⟨g,b⟩:=g
  simp only[e g (hg g b Zl)]
theorem zPB(h:zU7 i0 cs ops=true):∃o0,ops[i0]? =some o0/\cs.contains i0=true/\(∀k,cs.contains k=true->k≠i0->ordB (cutR cs ops) i0 k=true)/\
  ∀k o,ops[k]? =some o->cs.contains k=false->(zA9 o=2->ordB (cutR cs ops) k i0=true)/\(∀t,o.dst=some t->t∈o0.looksAt ops->ordB (cutR cs ops) k i0=true)/\∀g b,o.guard=some (g,b)->cs.contains g=false:=by
 unfold zU7 at h;simp only at h;split at h
 .cases h
 rename_i o0 Jg
 simp only[Bool.and_eq_true,List.all_eq_true,Bool.or_eq_true,beq_iff_eq]at h
 obtain⟨⟨h1,h2⟩,h3⟩:=h
 refine⟨o0,Jg,h1,fun k hk hne=>?_,fun k o ho hc=>?_⟩
 .rcases h2 k (by simpa using hk)with h|h
  .exact absurd h hne
  exact h
 rcases h3 (o,k) (List.mem_zipIdx_iff_getElem?.2 (by simpa using ho))with h|⟨⟨ha,hb⟩,hd⟩
 .simp only at h;rw[hc]at h;cases h
 refine⟨fun hk=>?_,fun t ht hm=>?_,fun g b hg=>?_⟩
 .rcases ha with ha|ha
  .simp[hk]at ha
  exact ha
 .simp only[ht,Bool.or_eq_true]at hb
  rcases hb with hb|hb
  .simp[hm]at hb
  exact hb
 simp only[hg,Bool.not_eq_true']at hd
 exact hd
theorem zNu{D:Nat->Bool}(hJ:zDb ops D){i:Nat}{o:Oper}(ho:ops[i]? =some o)(hr:∀e∈o.after,Region.binds .any e=true->D e.on=true){k:Nat}(hk:Anc ops i k):D k=true:=by
 cases hk with
 |step Ba he hb=>rw[ho]at Ba;cases Ba;exact hr _ he hb
 |trans Ba he hb ht=>rw[ho]at Ba;cases Ba;exact zDs hJ ht (hr _ he hb)
variable{fr0:List AV}{S0:ASt}{V:Nat->AV}{Sx:Nat->ASt}
theorem Drawn.thr(na:zU7 i0 cs ops=true)(hd:Drawn P (cutR cs ops) fr0 S0 V Sx){Q:Exit->List AV->ASt->Prop}{F:FuncId}{args:List AV}{v:Value}{T:ASt}
  (hc:∀o0,ops[i0]? =some o0->zBs ops o0 (frD (cutR cs ops) V (fun _=>true) (List.range (cutR cs ops).size) fr0)=some true/\zC0 o0 (frD (cutR cs ops) V (fun _=>true) (List.range (cutR cs ops).size) fr0)=some (F,args)) (hA:zM P F args (Sx (cutR cs ops).size) (.thr v) T) (hQ:∀fr,Q (.panic (zDI v)) fr T)
  {Pr0:Prot} {φ0:Fi2} {a0:Act} {w0:World}:
  ∀(fuel:Nat) (ba:Array Bool) (Pr:Prot) (φ:Fi2) (a:Act) (w:World),ba.size=(cutR cs ops).size->ba.getD i0 false=false->((List.range (cutR cs ops).size).filter fun j=>!ba.getD j true).length<=fuel->zDb (cutR cs ops) (fun j=>ba.getD j false)->
   RF Pr φ (frD (cutR cs ops) V (fun j=>ba.getD j false) (List.range (cutR cs ops).size) fr0) a->Rel Pr φ (Sc (cutR cs ops) Sx (fun j=>ba.getD j false) (List.range (cutR cs ops).size) (Sx 0)) w->φ≠ []->Stp Pr0 φ0 w0 Pr φ w->a.defers=a0.defers->wpAny P .any ops (Post Pr0 φ0 a0 w0 Q) fuel ba a w:=by
 obtain⟨o0,Jg,Gq,am,Ga⟩:=zPB na
 obtain⟨Ld,Kg⟩:=hc o0 Jg
 have uo:∀i,(cutR cs ops)[i]? =(ops[i]?).map (cutO cs i):=zBM
 have Wg:∀ba,Region.ready .any ops ba=Region.ready .any (cutR cs ops) ba:=zRr
 have vo:(cutR cs ops).size=ops.size:=zGA
 have kn:∀(o:Oper),(∀g b,o.guard=some (g,b)->cs.contains g=false)->∀ts,Region.wanted o (yielded (cutR cs ops) ts)=Region.wanted o (yielded ops ts):=fun o hg ts=>zPA hg ts
 have wo:i0<(cutR cs ops).size:=by rw[vo];exact zCc Jg
 generalize cutR cs ops=c at*
 obtain⟨g1,g2⟩:=zDq hd.stat
 have ae:∀(ba:Array Bool),ba.size=c.size->ba.getD i0 false=false->Region.ready .any c ba≠ []:=by
  intro ba cb Fc hr
  have ia:∀i,i<c.size->ba.getD i false=true:=by
   intro i
   induction i using Nat.strongRecOn with
   |_ i ih=>
    intro hi
    cases hl:ba.getD i false with
    |true=>rfl
    |false=>
     have ho:c[i]? =some c[i]:=Array.getElem?_eq_getElem hi
     have Pc:i∈Region.ready .any c ba:=by
      refine List.mem_filter.2 ⟨List.mem_range.2 hi,?_⟩
      have mg:ba.getD i true=false:=by
       have ve:i<ba.size:=by omega
       simp[Array.getD,ve]at hl ⊢;exact hl
      simp only[mg,Bool.not_false,Bool.true_and,ho,Option.map_some,Option.getD_some];rw[Array.all_eq_true];intro x hx
      cases hb:Region.binds .any c[i].after[x]with
      |false=>simp
      |true=>
       have hlt:=g1 i _ ho c[i].after[x] (Array.getElem_mem hx) hb
       simp only[Bool.not_true,Bool.false_or];exact ih _ hlt (by omega)
     rw[hr]at Pc;cases Pc
  rw[ia i0 wo]at Fc;cases Fc
 intro fuel
 induction fuel with
 |zero=>
  intro ba Pr φ a w cb Fc vf hJ hf hR hne hs Nd
  exfalso
  refine ae ba cb Fc ?_
  have h0:(List.range c.size).filter (fun j=>!ba.getD j true)=[]:=List.eq_nil_of_length_eq_zero (by omega)
  rw[List.eq_nil_iff_forall_not_mem];intro j hj
  obtain⟨h1,h2⟩:=List.mem_filter.1 hj
  simp only[Bool.and_eq_true]at h2
  have:j∈(List.range c.size).filter (fun j=>!ba.getD j true):=List.mem_filter.2 ⟨h1,h2.1⟩
  rw[h0]at this;cases this
 |succ fuel ih=>
  intro ba Pr φ a w cb Dk vf hJ hf hR hne hs Nd;refine⟨fun hr=>absurd (by rw[<-Wg];exact hr) (ae ba cb Dk),fun i hi=>?_⟩
  rw[Wg]at hi
  obtain⟨pb,o,ho,ia⟩:=mem_ready.1 hi
  have jl:i<c.size:=zCc ho
  have ve:i<ba.size:=by omega
  have Fc:ba.getD i false=false:=by
   simp[Array.getD,ve]at pb ⊢;exact pb
  have Na:∀e∈o.after,Region.binds .any e=true->ba.getD e.on false=true:=ia
  have Rf:∃oc,ops[i]? =some oc/\cutO cs i oc=o:=by
   rw[uo]at ho;exact Option.map_eq_some_iff.1 ho
  obtain⟨oc,Rf,Rq⟩:=Rf
  by_cases Ao:i=i0
  .--the call itself
   subst Ao;rw[Jg]at Rf;cases Rf
   have Mj:∀k,ordB c k i=true->ba.getD k false=true:=fun k hk=>zNu (D:=fun j=>ba.getD j false) hJ ho Na (zF8 hk)
   have Nj:∀t∈o0.looksAt ops,(frD c V (fun j=>ba.getD j false) (List.range c.size) fr0)[t]? =(frD c V (fun _=>true) (List.range c.size) fr0)[t]?:=fun t ht=>by
    refine zCb _ _ _ rfl rfl fun j hj Oc=>?_
    have Sq:j<c.size:=List.mem_range.1 hj
    have ll:j<ops.size:=by omega
    have bm:ops[j]? =some ops[j]:=Array.getElem?_eq_getElem ll
    unfold dstO at Oc;rw[uo,bm,Option.map_some,Option.bind_some]at Oc
    cases ig:cs.contains j with
    |true=>rw[zRq ig]at Oc;cases Oc
    |false=>
     rw[zHY ig]at Oc;exact Mj j ((Ga j _ bm ig).2.1 t Oc ht)
   have Ai:Sc c Sx (fun j=>ba.getD j false) (List.range c.size) (Sx 0)=Sx c.size:=by
    rw[zC9 (D':=fun j=>decide (j<c.size)) _ _ fun j hj Qi=>?_]
    .exact hd.all_to _ (Nat.le_refl _)
    have Sq:j<c.size:=List.mem_range.1 hj
    have ll:j<ops.size:=by omega
    have bm:ops[j]? =some ops[j]:=Array.getElem?_eq_getElem ll
    unfold chO at Qi;rw[uo,bm,Option.map_some]at Qi
    cases ig:cs.contains j with
    |true=>rw[zRq ig]at Qi;simp[zA9]at Qi
    |false=>
     rw[zHY ig]at Qi
     have hk:zA9 ops[j]=2:=by simpa using Qi
     rw[Mj j ((Ga j _ bm ig).1 hk)];simp[Sq]
   rw[Ai]at hR;unfold wpOp;rw[Jg];simp only;rw[<-zCQ Nj]at Ld;rw[<-zEB (zHU Nj)]at Kg;simp only[zBT hf Ld,if_true]
   left
   exact zLW hf hR hne Kg hA fun w' Pr' φ' s1 s2=>⟨_,T,Pr',φ',hQ _,hf.mono s1.pl s1.fl,s2,hs.trans s1,Nd⟩
  .cases ig:cs.contains i with
   |true=>
    have h1:ba.getD i0 false=true:=zNu (D:=fun j=>ba.getD j false) hJ ho Na (zF8 (am i ig Ao))
    rw[Dk]at h1;cases h1
   |false=>
    rw[zHY ig]at Rq;subst Rq
    have Zl:=(Ga i _ Rf ig).2.2
    have Dc:∀j,(ba.setIfInBounds i true).getD j false=if j=i then true else ba.getD j false:=fun j=>by
     by_cases hj:j=i
     .subst hj;simp[Array.getD,ve]
     rw[if_neg hj]
     simp only[Array.getD_eq_getD_getElem?];rw[Array.getElem?_setIfInBounds_ne (by omega)]
    have Ql:zDb c (fun j=>(ba.setIfInBounds i true).getD j false):=fun j x hx hj e he hb=>by
     show(ba.setIfInBounds i true).getD e.on false=true
     rw[Dc];split
     .rfl
     by_cases Xc:j=i
     .subst Xc;rw[ho]at hx;cases hx;exact Na e he hb
     have:ba.getD j false=true:=by
      have Eg:(ba.setIfInBounds i true).getD j false=true:=hj
      rw[Dc,if_neg Xc]at Eg;exact Eg
     exact hJ j x hx this e he hb
    have Yd:((List.range c.size).filter fun j=>!(ba.setIfInBounds i true).getD j true).length<=fuel:=by
     have h1:((List.range c.size).filter fun j=>!(ba.setIfInBounds i true).getD j true)=((List.range c.size).filter fun j=>!ba.getD j true).filter (fun j=>!(j==i)):=by
      rw[List.filter_filter];refine List.filter_congr fun j hj=>?_
      by_cases Xc:j=i
      .subst Xc;simp[Array.getD,ve]
      simp only[Array.getD_eq_getD_getElem?]
      rw[Array.getElem?_setIfInBounds_ne (by omega)]
      simp[Xc]
     have h2:i∈(List.range c.size).filter fun j=>!ba.getD j true:=List.mem_filter.2 ⟨List.mem_range.2 jl,by rw[pb];rfl⟩
     have h3:(((List.range c.size).filter fun j=>!ba.getD j true).filter (fun j=>!(j==i))).length<((List.range c.size).filter fun j=>!ba.getD j true).length:=by
      refine List.length_filter_lt_length_iff_exists.2 ⟨i,h2,by simp⟩
     rw[h1];omega
    have Jb:=hd.looks (D:=fun j=>ba.getD j false) hJ ho Fc Na
    have Gg:=zHU Jb
    have Zd:=hd.put (D:=fun j=>ba.getD j false) (D':=fun j=>(ba.setIfInBounds i true).getD j false) hJ ho Fc Na Dc
    have Bo:(ba.setIfInBounds i true).getD i0 false=false:=by rw[Dc,if_neg (fun h=>Ao h.symm)];exact Dk
    have go:∀(S':ASt),Sc c Sx (fun j=>(ba.setIfInBounds i true).getD j false) (List.range c.size) (Sx 0)=S'->∀x w' Pr' φ',Stp Pr φ w Pr' φ' w'->Rel Pr' φ' S' w'->RA Pr' φ' (V i) x->wpAny P .any ops (Post Pr0 φ0 a0 w0 Q) fuel (ba.setIfInBounds i true) (a.put oc.dst x) w':=by
     intro S' uf x w' Pr' φ' s1 s2 s3;refine ih (ba.setIfInBounds i true) Pr' φ' _ w' (by simpa using cb) Bo Yd Ql ?_ ?_ (zP s1 hne) (hs.trans s1) ((zAW _ _ _).trans Nd)
     .rw[Zd];exact(hf.mono s1.pl s1.fl).put oc.dst s3
     rw[uf];exact s2
    have Kb:zA9 oc≠2->Sc c Sx (fun j=>(ba.setIfInBounds i true).getD j false) (List.range c.size) (Sx 0)=Sc c Sx (fun j=>ba.getD j false) (List.range c.size) (Sx 0):=fun hk=>zC9 _ _ fun j _ hc=>by
     rw[Dc,if_neg (fun Xc=>?_)]
     subst Xc;simp[chO,ho]at hc;exact hk hc
    have ng:∀{b:Bool},zBs c oc (frD c V (fun j=>ba.getD j false) (List.range c.size) fr0)=some b->Region.wanted oc (yielded ops a.tmps)=b:=fun h=>by
     rw[<-kn oc Zl];exact zBT hf h
    unfold wpOp;rw[Rf];simp only
    rcases hd.step i oc ho with⟨hw,hV,vk⟩|⟨hw,xf⟩
    .rw[zCQ Jb]at hw
     simp only[ng hw,Bool.false_eq_true,if_false];refine go _ ?_ undef w Pr φ (Stp.refl _ _ _) hR (by rw[hV];exact .un)
     by_cases hk:zA9 oc=2
     .rw[hd.chain_next (D:=fun j=>ba.getD j false) hJ ho Fc Na hk Dc,vk,hd.chain (D:=fun j=>ba.getD j false) hJ ho Fc Na hk]
     exact Kb hk
    rw[zCQ Jb]at hw
    simp only[ng hw,if_true]
    left
    rcases xf with⟨h1,hk,_⟩|⟨ref,h1,hk,_,hm⟩|⟨hk,h1⟩
    .rw[zF7 Gg]at h1
     exact zAp hf hR hne (.quiet h1) (go _ (Kb (by omega)))
    .have h2:=zH3 Gg h1 (S':=Sc c Sx (fun j=>ba.getD j false) (List.range c.size) (Sx 0)) fun d k hr=>hd.kept (D:=fun j=>ba.getD j false) hJ ho Fc Na (hm d k hr)
     exact zAp hf hR hne (.load h2) (go _ (Kb (by omega)))
    have Jh:=hd.chain (D:=fun j=>ba.getD j false) hJ ho Fc Na hk
    have Ai:=hd.chain_next (D:=fun j=>ba.getD j false) hJ ho Fc Na hk Dc
    rw[Jh]at hR
    rcases h1 with⟨lg,h1⟩|⟨F,args,h1,h2⟩
    .rw[zH4 Gg]at h1
     exact zAp hf hR hne (.chain h1) (go _ Ai)
    rw[zEB Gg]at h1
    exact zAp hf hR hne (zD9 h1 h2) (go _ Ai)
def ThrK(P:Program)(ops:Array Oper)(i0:Nat)(Q:Exit->List AV->ASt->Prop)(fr:List AV)(S:ASt):Prop:=
 match ops[i0]? with
 |none=>False
 |some o=>zBs ops o fr=some true/\match zC0 o fr with
  |none=>False
  |some (F,args)=>∃v T,zM P F args S (.thr v) T/\∀fr,Q (.panic (zDI v)) fr T
theorem z9{id:Nat}{fr:List AV}{S:ASt}{Q:Exit->List AV->ASt->Prop}(i0:Nat)(cs:List Nat)(ib:List (Nat × Nat))(na:zU7 i0 cs ops=true)(Ca:zLH (cutR cs ops)=true)(We:zJV (cutR cs ops)=ib)(h:awpD P (cutR cs ops) ib (ThrK P ops i0 Q) (cutL cs 0 ops.toList) 0 fr S [] [S] []):zBY P (.region id ops true) fr S Q:=by
 rw[zBY,if_pos rfl]
 obtain⟨V,Sx,hd,hK⟩:=zKG ib Ca We (by simpa [cutR]using h)
 unfold ThrK at hK;split at hK
 .exact hK.elim
 rename_i o0 Jg
 obtain⟨hw,hK⟩:=hK
 split at hK
 .exact hK.elim
 rename_i F args Kg
 obtain⟨v,T,hA,hQ⟩:=hK
 intro Pr0 φ0 a0 w0 Pr φ a w hf hR hne hs Nd
 have e0:∀j,(Array.replicate ops.size false).getD j false=false:=fun j=>by
  simp only[Array.getD_eq_getD_getElem?,Array.getElem?_replicate];split<;>rfl
 have e1:∀(l:List Nat) (fr:List AV),frD (cutR cs ops) V (fun j=>(Array.replicate ops.size false).getD j false) l fr=fr:=fun l=>by
  induction l with
  |nil=>intro fr;rfl
  |cons j l ih=>intro fr;rw[frD,e0,if_neg (by simp),ih]
 have e2:∀(l:List Nat) (S:ASt),Sc (cutR cs ops) Sx (fun j=>(Array.replicate ops.size false).getD j false) l S=S:=fun l=>by
  induction l with
  |nil=>intro S;rfl
  |cons j l ih=>intro S;rw[Sc,e0,Bool.false_and,if_neg (by simp),ih]
 refine hd.thr na (fun o ho=>by rw[Jg]at ho;cases ho;exact⟨hw,Kg⟩) hA hQ ops.size _ Pr φ a w (by simp[zGA]) (e0 _) (Nat.le_trans (List.length_filter_le _ _) (by simp[zGA])) (fun i o ho hi=>by
  have h1:(Array.replicate ops.size false).getD i false=true:=hi
  rw[e0]at h1;cases h1) ?_ ?_ hne hs Nd
 .rw[e1];exact hf
 rw[e2,hd.start];exact hR
end
end Go.Proofs.YtdflkegnmmkkoaaGreatDoor
namespace Go.Proofs.YtdflkegnmmkkoaaGreatDoor
open Go.RowKit
def zLX(P:Program)(K:FuncId)(args:List AV)(S:ASt)(u u':FrameMode)(S':ASt):Prop:=
 (∀xs w,(callFunc K xs).run P w= .ok (.enter K xs) w)/\∀Pr φ (xs:Array Value) w,RL Pr φ args xs->Rel Pr φ S w->φ≠ []->
  CallsD P K xs u w fun e v w'=>v=u'/\∃x Pr' φ',e= .returned x/\Stp Pr φ w Pr' φ' w'/\Rel Pr' φ' S' w'
def zKM(P:Program):List AV->FrameMode->ASt->ASt->Prop
 | [],u,S,S'=>u= .returning/\S=S'
 | .fn (.func K) la lb::vs,u,S,S'=>u≠ .run/\∃u' S1,zLX P K (la++lb) S u u' S1/\zKM P vs (settle u') S1 S'
 |_::_,_,_,_=>False
section
variable{P:Program}
theorem zG9{fn:Func}{a:Act}{fr:List AV}{Co:List AV}{R:Ending->World->Prop}{Pr0:Prot}{φ0:Fi2}{w0:World}{S':ASt}(ac:resA P fr S' fn.results.toList=some Co)(dj:∀Pr φ w x,Stp Pr0 φ0 w0 Pr φ w->Rel Pr φ S' w->RA Pr φ (retA Co) x->R (.returned x) w):
  ∀(vs:List AV) (ds:List Deferred) (u:FrameMode) (Pr:Prot) (φ:Fi2) (S:ASt) (w:World),DR Pr φ vs ds->RF Pr φ fr a->Rel Pr φ S w->φ≠ []->Stp Pr0 φ0 w0 Pr φ w->zKM P vs u S S'->Leaves P fn a.tmps R ds u w
 | [],[],u,Pr,φ,S,w,hd,hf,hR,hne,hs,hk=>by
  obtain⟨rfl,rfl⟩:=hk
  obtain⟨x,hx,ua⟩:=zCp (P:=P) (fn:=fn) hf hR ac
  exact⟨x,ua,dj Pr φ w x hs hR hx⟩
 | [],_::_,u,Pr,φ,S,w,hd,hf,hR,hne,hs,hk=>hd.elim
 |_::_,[],u,Pr,φ,S,w,hd,hf,hR,hne,hs,hk=>hd.elim
 |v::vs,d::ds,u,Pr,φ,S,w,⟨⟨f,la,lb,cap,h1,h2,h3⟩,hd⟩,hf,hR,hne,hs,hk=>by
  subst h1
  cases f with
  |func K=>
   obtain⟨hu,u',S1,⟨hK,hc⟩,hk⟩:=hk
   obtain⟨t,xs⟩:=d
   simp only at h2 h3;subst h2
   cases h3 with
   |fn l1 l2 c1 c2=>
    have da:RL Pr φ (la++lb) (xs++cap):=RL.append ⟨l1,c1⟩ ⟨l2,c2⟩
    refine leaves_cons hu (f:=K) (args:=xs++cap) (by simp[invoke,hK]) ?_
    refine(hc Pr φ _ w da hR hne).mono fun e v w' hp=>?_
    obtain⟨rfl,x,Pr',φ',rfl,s1,r1⟩:=hp
    exact zG9 ac dj vs ds (settle v) Pr' φ' S1 w' (hd.mono s1.pl s1.fl) (hf.mono s1.pl s1.fl) r1 (zP s1 hne) (hs.trans s1) hk
  |_=>exact hk.elim
def zEI(P:Program):Code->List AV->ASt->List AV->(Exit->List AV->ASt->List AV->Prop)->Prop
 | .region id ops kb,fr,S,ds,Q=>if(ops.toList.any zFh&& !kb)=true then zAq P ops ops.toList fr S ds (Q .normal)else zBY P (.region id ops kb) fr S fun e fr S=>Q e fr S ds
 | .seq a b,fr,S,ds,Q=>zEI P a fr S ds fun e fr S ds=>
  match e with
  | .normal=>zEI P b fr S ds Q
  |e=>Q e fr S ds
 | .cond c t e,fr,S,ds,Q=>
  match evA fr c with
  | .p (.v (.bool b))=>if b=true then zEI P t fr S ds Q else zEI P e fr S ds Q
  |_=>False
 | .block id body,fr,S,ds,Q=>zEI P body fr S ds fun e fr S ds=>
  match e with
  | .exit j=>if j=id then Q .normal fr S ds else Q (.exit j) fr S ds
  |e=>Q e fr S ds
 | .loop body,fr,S,ds,Q=>zRi (zEI P body) fr S ds Q
 | .exit id,fr,S,ds,Q=>Q (.exit id) fr S ds
 | .label _,fr,S,ds,Q=>Q .normal fr S ds
 | .ret,fr,S,ds,Q=>Q .ret fr S ds
 | .skip,fr,S,ds,Q=>Q .normal fr S ds
 |_,_,_,_,_=>False
theorem zU8{c:Code}(hm:P.follows .mixedOrders=true){Q:Exit->List AV->ASt->List AV->Prop}{Pr:Prot}{φ:Fi2}{fr:List AV}{a:Act}{S:ASt}{ds:List AV}{w:World}(h:RF Pr φ fr a)(hR:Rel Pr φ S w)(hne:φ≠ [])(hd:DR Pr φ ds a.defers)(hk:zBY P c fr S fun e fr S=>Q e fr S ds):c.wp P (zEV Pr φ w Q) a w:=
 wp_mono (zDA hm c _ Pr φ fr a S w h hR hne hk) fun e a' w' hp=>by
  obtain⟨ja,S',Pr',φ',h1,h2,h3,h4,h5⟩:=hp
  exact⟨ja,S',ds,Pr',φ',h1,h2,h3,h4,by rw[h5];exact hd.mono h4.pl h4.fl⟩
theorem zEJ(hm:P.follows .mixedOrders=true):∀(c:Code) (Q:Exit->List AV->ASt->List AV->Prop) (Pr:Prot) (φ:Fi2) (fr:List AV) (a:Act) (S:ASt) (ds:List AV) (w:World),RF Pr φ fr a->Rel Pr φ S w->φ≠ []->DR Pr φ ds a.defers->zEI P c fr S ds Q->c.wp P (zEV Pr φ w Q) a w
 | .skip,Q,Pr,φ,fr,a,S,ds,w,h,hR,hne,hd,hk=>wp_skip ⟨fr,S,ds,Pr,φ,hk,h,hR,Stp.refl _ _ _,hd⟩
 | .label l,Q,Pr,φ,fr,a,S,ds,w,h,hR,hne,hd,hk=>wp_label ⟨fr,S,ds,Pr,φ,hk,h,hR,Stp.refl _ _ _,hd⟩
 | .exit id,Q,Pr,φ,fr,a,S,ds,w,h,hR,hne,hd,hk=>wp_exit ⟨fr,S,ds,Pr,φ,hk,h,hR,Stp.refl _ _ _,hd⟩
 | .ret,Q,Pr,φ,fr,a,S,ds,w,h,hR,hne,hd,hk=>wp_ret ⟨fr,S,ds,Pr,φ,hk,h,hR,Stp.refl _ _ _,hd⟩
 | .region id ops kb,Q,Pr,φ,fr,a,S,ds,w,h,hR,hne,hd,hk=>by
  simp only[zEI]at hk;split at hk
  .rename_i hc
   simp only[Bool.and_eq_true,Bool.not_eq_true']at hc;rw[hc.2];refine wp_region ?_
   have:=zDH (Q:=Q) (fun _ _ _ h=>h) ops.toList 0 rfl Pr φ fr a S ds w h hR hne (Stp.refl _ _ _) hd hk
   rwa [List.range_eq_range',<-Array.length_toList]
  exact zU8 hm h hR hne hd hk
 | .seq x y,Q,Pr,φ,fr,a,S,ds,w,h,hR,hne,hd,hk=>by
  refine wp_seq (wp_mono (zEJ hm x _ Pr φ fr a S ds w h hR hne hd hk) fun e a' w' hp=>?_)
  obtain⟨ja,S',Gc,Pr',φ',h1,h2,h3,h4,h5⟩:=hp
  cases e with
  |normal=>exact wp_mono (zEJ hm y Q Pr' φ' ja a' S' Gc w' h2 h3 (zP h4 hne) h5 h1) fun e Eh Fh hp=>zEV.trans h4 e Eh Fh hp
  |_=>exact⟨ja,S',Gc,Pr',φ',h1,h2,h3,h4,h5⟩
 | .cond c t e,Q,Pr,φ,fr,a,S,ds,w,h,hR,hne,hd,hk=>by
  simp only[zEI]at hk;split at hk
  .rename_i b hb
   have hc:=zS (h.ev c) (by rw[hb];rfl)
   refine wp_cond hc ?_
   cases b with
   |true=>exact zEJ hm t Q Pr φ fr a S ds w h hR hne hd hk
   |false=>exact zEJ hm e Q Pr φ fr a S ds w h hR hne hd hk
  exact hk.elim
 | .block id body,Q,Pr,φ,fr,a,S,ds,w,h,hR,hne,hd,hk=>by
  refine wp_block (wp_mono (zEJ hm body _ Pr φ fr a S ds w h hR hne hd hk) fun e a' w' hp=>?_)
  obtain⟨ja,S',Gc,Pr',φ',h1,h2,h3,h4,h5⟩:=hp
  cases e with
  |exit j=>
   simp only[Exit.inBlock];simp only at h1;split
   .rename_i hj
    rw[if_pos hj]at h1;exact⟨ja,S',Gc,Pr',φ',h1,h2,h3,h4,h5⟩
   rename_i hj
   rw[if_neg hj]at h1
   exact⟨ja,S',Gc,Pr',φ',h1,h2,h3,h4,h5⟩
  |_=>exact⟨ja,S',Gc,Pr',φ',h1,h2,h3,h4,h5⟩
 | .loop body,Q,Pr,φ,fr,a,S,ds,w,h,hR,hne,hd,hk=>by
  obtain⟨α,I,F,G,D,μ,a0,n,hI,rb,Ig,qo,hn,hb⟩:=hk
  have Rb:RF Pr φ (F a0) a:=h.wk (zEa rb)
  have tf:Rel Pr φ (G a0) w:=zEZ hR (zEb Ig)
  have hn2:top φ=top (G a0):=zB1 tf.shape
  refine wp_loop_ghost (fun k a1 w1=>∃m Ab φ1,I m/\μ m=k/\RF Ab φ1 (F m) a1/\Rel Ab φ1 (G m) w1/\Stp Pr φ w Ab φ1 w1/\DR Ab φ1 (D m) a1.defers) (μ a0) ⟨a0,Pr,φ,hI,rfl,Rb,tf,Stp.refl _ _ _,by rw[<-qo];exact hd⟩ ?_
  rintro k a1 w1 ⟨m,Ab,φ1,Gh,rfl,hf,hr,hs,Cc⟩
  refine wp_mono (zEJ hm body _ Ab φ1 (F m) a1 (G m) (D m) w1 hf hr (zP hs hne) Cc (hb m Gh)) fun e a2 w2 hp=>?_
  obtain⟨ja,S',Gc,qc,φ2,h1,h2,h3,h4,h5⟩:=hp
  cases e with
  |normal=>
   obtain⟨m',Ce,hlt,Hh,kg,ro⟩:=h1
   have Ra:=hs.trans h4
   have vc:φ2≠ []:=zP Ra hne
   obtain⟨l2,φr,rfl⟩:=List.exists_cons_of_ne_nil vc
   obtain⟨l0,φ0,rfl⟩:=List.exists_cons_of_ne_nil hne
   have uf:S'≠ []:=fun h0=>by have:=h3.shape;rw[h0]at this;simp at this
   obtain⟨L',SR,rfl⟩:=List.exists_cons_of_ne_nil uf
   have ud:l0.length<=n m':=Nat.le_trans (Nat.le_of_eq hn2) (hn m' Ce)
   have lf:RF qc (l2.take (n m')::φr) (AV.cuts (n m') ja) a2:=⟨by rw[zCM];exact h2.len,fun t c x hc hx=>by
    rw[zBx]at hc
    obtain⟨c0,h0,rfl⟩:=Option.map_eq_some_iff.1 hc
    exact(h2.at_ t c0 x h0 hx).cut⟩
   exact⟨μ m',hlt,m',qc,l2.take (n m')::φr,Ce,rfl,lf.wk (zEa Hh),zEZ (zD7 h3 (n m')) (zEb kg),zE7 Ra ud,by rw[<-ro];exact h5.cut⟩
  |_=>exact⟨ja,S',Gc,qc,φ2,h1,h2,h3,hs.trans h4,h5⟩
 | .scope _,Q,Pr,φ,fr,a,S,ds,w,h,hR,hne,hd,hk=>hk.elim
 | .rangeFunc _ _ _ _,Q,Pr,φ,fr,a,S,ds,w,h,hR,hne,hd,hk=>hk.elim
 | .goto _,Q,Pr,φ,fr,a,S,ds,w,h,hR,hne,hd,hk=>hk.elim
 | .refuse _,Q,Pr,φ,fr,a,S,ds,w,h,hR,hne,hd,hk=>hk.elim
def zRs:Exit->Option FrameMode
 | .normal=>some .returning
 | .ret=>some .returning
 | .panic l=>some (.panicking l)
 |_=>none
def zaX(P:Program)(rs:List ResultVar)(r:AV)(S':ASt):Exit->List AV->ASt->List AV->Prop:=fun e fr S1 ds=>
 ∃u,zRs e=some u/\∃S2 vs,zKM P ds u S1 S2/\resA P fr S2 rs=some vs/\(retA vs).down 1=some r/\S2.tail=S'
theorem ADet.introRv{K:FuncId}{args:List AV}{r:AV}{S S':ASt}{fn:Func}{c:Code}(hm:P.follows .mixedOrders=true)(hK:∀xs w,(callFunc K xs).run P w= .ok (.enter K xs) w)(hf:P.funcs[K]? =some fn)(hb:fn.body=some c)
  (h:zEI P c (AV.ups 1 args++List.replicate (fn.ntmps-args.length) .un) ([]::S) [] (zaX P fn.results.toList r S')):ADet P K args S r S':=by
 refine⟨hK,fun Pr φ xs w da hR hne=>?_⟩
 refine calls_of_wp_defers hf hb ?_;refine wp_mono (zEJ hm c _ Pr ([]::φ) _ _ ([]::S) [] w (zEF da) (zC8 hR) (by simp) trivial h) fun e a' w' hp=>?_
 obtain⟨ja,S1,ds,Pr',φ',⟨u,he,S2,vs,ua,ac,hr,h3⟩,h4,h5,h6,h7⟩:=hp
 have key:Leaves P fn a'.tmps (fun e w'=>∃x Pr' φ',e= .returned x/\Stp Pr φ w Pr' φ' w'/\Rel Pr' φ' S' w'/\RA Pr' φ' r x) a'.defers u w':=by
  refine zG9 (P:=P) (Pr0:=Pr) (φ0:=[]::φ) (w0:=w) (S':=S2) ac (fun qc φ2 w2 x s2 r2 hx=>?_) ds a'.defers u Pr' φ' S1 w' h7 h4 h5 (zP h6 (by simp)) h6 ua
  have Vb:φ2≠ []:=zP s2 (by simp)
  obtain⟨l',φ1,rfl⟩:=List.exists_cons_of_ne_nil Vb
  have Ic:S2≠ []:=fun h0=>by have:=r2.shape;rw[h0]at this;simp at this
  obtain⟨L',S3,rfl⟩:=List.exists_cons_of_ne_nil Ic
  simp only[List.tail_cons]at h3;subst h3;exact⟨x,qc,φ1,rfl,zDk s2,zCP r2,hx.down r hr⟩
 cases e with
 |normal=>cases he;exact key
 |ret=>cases he;exact key
 |panic l=>cases he;exact key
 |exit _=>cases he
 |goto _=>cases he
 |outgrown=>cases he
end
section
variable{P:Program}{fr:List AV}{S:ASt}{ds:List AV}{Q:Exit->List AV->ASt->List AV->Prop}
def zRt(P:Program)(b:Code)(Q:Exit->List AV->ASt->List AV->Prop)(e:Exit)(fr:List AV)(S:ASt)(ds:List AV):Prop:=match e with| .normal=>zEI P b fr S ds Q|e=>Q e fr S ds
theorem zLY(b:Code):zRt P b Q .normal fr S ds=zEI P b fr S ds Q:=rfl
theorem zPC(b:Code)(j:Nat):zRt P b Q (.exit j) fr S ds=Q (.exit j) fr S ds:=rfl
theorem zRu(b:Code):zRt P b Q .ret fr S ds=Q .ret fr S ds:=rfl
theorem zLZ(id:Nat)(ops:Array Oper)(kb:Bool):zEI P (.region id ops kb) fr S ds Q=if(ops.toList.any zFh&& !kb)=true then zAq P ops ops.toList fr S ds (Q .normal)else zBY P (.region id ops kb) fr S (zRk ds Q):=by rw[zEI]<;>rfl
theorem zRv(a b:Code):zEI P (.seq a b) fr S ds Q=zEI P a fr S ds (zRt P b Q):=by rw[zEI]<;>congr 1
theorem zRw:zEI P .ret fr S ds Q=Q .ret fr S ds:=by rw[zEI]
theorem zMc(b:Code)(l:List PanicEntry):zRt P b Q (.panic l) fr S ds=Q (.panic l) fr S ds:=rfl
theorem zMd(i:Nat)(l:List PanicEntry):zRj i Q (.panic l) fr S ds=Q (.panic l) fr S ds:=rfl
theorem zU9{rs:List ResultVar}{r:AV}{S':ASt}(e:Exit):zaX P rs r S' e fr S ds=∃u,zRs e=some u/\∃S2 vs,zKM P ds u S S2/\resA P fr S2 rs=some vs/\(retA vs).down 1=some r/\S2.tail=S':=rfl
theorem zRx{u:FrameMode}{S':ASt}:zKM P [] u S S'=(u= .returning/\S=S'):=by rw[zKM]
theorem zPD{u:FrameMode}{S':ASt}(K:FuncId)(la lb vs:List AV):zKM P (.fn (.func K) la lb::vs) u S S'=(u≠ .run/\∃u' S1,zLX P K (la++lb) S u u' S1/\zKM P vs (settle u') S1 S'):=by rw[zKM]
end
end Go.Proofs.YtdflkegnmmkkoaaGreatDoor
