/- A part of the proof. -/
import Derived.Test.YtgpajpilkapciaaGreatDoorXMLd
import Derived.Recover
set_option linter.unusedVariables false
set_option linter.unusedSimpArgs false
set_option maxRecDepth 100000
set_option maxHeartbeats 32000000
namespace Go.Proofs.YtgpajpilkapciaaGreatDoor
open Go.RowKit
def zC2(v:Value):List PanicEntry:=[{v,recovered:=false}]
inductive ARes where
 |ret (r:AV)|thr (v:Value)
def ARes.fits(Pr:Prot)(φ:Fi2):ARes->Ending->Prop
 | .ret r,e=>∃x,e= .returned x/\RA Pr φ r x
 | .thr v,e=>e= .panicked (zC2 v)
def zL(P:Program)(K:FuncId)(args:List AV)(S:ASt)(Xb:ARes)(S':ASt):Prop:=
 (∀xs w,(callFunc K xs).run P w= .ok (.enter K xs) w)/\∀Pr φ (xs:Array Value) w,RL Pr φ args xs->Rel Pr φ S w->φ≠ []->
  Calls P K xs w fun e w'=>∃Pr' φ',Xb.fits Pr' φ' e/\Stp Pr φ w Pr' φ' w'/\Rel Pr' φ' S' w'
section
variable{P:Program}{K:FuncId}{args:List AV}{S S':ASt}
theorem ADet.call{r:AV}(h:ADet P K args S r S'):zL P K args S (.ret r) S':=
 ⟨h.1,fun Pr φ xs w h1 h2 h3=>(h.2 Pr φ xs w h1 h2 h3).mono fun e w' he=>by
  obtain⟨x,Pr',φ',rfl,s1,s2,s3⟩:=he
  exact⟨Pr',φ',⟨x,rfl,s3⟩,s1,s2⟩⟩
theorem zL.det{r:AV}(h:zL P K args S (.ret r) S'):ADet P K args S r S':=
 ⟨h.1,fun Pr φ xs w h1 h2 h3=>(h.2 Pr φ xs w h1 h2 h3).mono fun e w' he=>by
  obtain⟨Pr',φ',⟨x,rfl,s3⟩,s1,s2⟩:=he
  exact⟨x,Pr',φ',rfl,s1,s2,s3⟩⟩
theorem zKh{Pr:Prot}{φ:Fi2}{o:Oper}{fr:List AV}{a:Act}{w:World}{v:Value}(h:RF Pr φ fr a)(hR:Rel Pr φ S w)(hne:φ≠ [])(hc:zCd o fr=some (K,args))(hd:zL P K args S (.thr v) S'){next:Act->World->Prop}{Q:Exit->Act->World->Prop}
  (hk:∀w' Pr' φ',Stp Pr φ w Pr' φ' w'->Rel Pr' φ' S' w'->Q (.panic (zC2 v)) a w'):o.wp P a w next Q:=by
 unfold zCd at hc;split at hc
 .rename_i c ho
  split at hc
  .rename_i f hf
   split at hc
   .rename_i K' fsts caps he
    cases hc
    obtain⟨hK,hd⟩:=hd
    have Zf:=h.ev f
    rw[he]at Zf
    generalize hy:a.eval f=y at Zf
    cases Zf with
    | @fn _ _ _ xs ys l1 l2 c1 c2=>
     have ea:RL Pr φ (fsts++(c.args.toList.map (evA fr)++caps)) (xs++(c.args.map a.eval++ys)):=by
      refine RL.append ⟨l1,c1⟩ (RL.append ⟨by simp,fun j q x hq hx=>?_⟩ ⟨l2,c2⟩)
      rw[List.getElem?_map]at hq
      obtain⟨q0,h0,rfl⟩:=Option.map_eq_some_iff.1 hq
      have fa:c.args[j]? =some q0:=by simpa using h0
      rw[Array.getElem?_map,fa]at hx;cases hx;exact h.ev _
     have ua:(execOp a.eval o).run P w= .ok (.enter K (xs++(c.args.map a.eval++ys))) w:=by
      simp[execOp,ho,resolve,hf,hy,Deferred.ofValue,invoke,hK,Array.append_assoc]
     simp only[Oper.wp,ua,Oper.upon];refine(hd Pr φ _ w ea hR hne).mono fun e w' he=>?_
     obtain⟨Pr',φ',hf,s1,s2⟩:=he
     cases hf;exact hk w' Pr' φ' s1 s2
   cases hc
  cases hc
 cases hc
end
def zCJ(o:Oper)(fr:List AV):Option Value:=
 match o.op with
 | .panic x=>
  match evA fr x with
  | .p (.v (.iface t v))=>some (.iface t v)
  |_=>none
 |_=>none
theorem zQK{P:Program}{Pr:Prot}{φ:Fi2}{o:Oper}{fr:List AV}{a:Act}{w:World}{v:Value}(h:RF Pr φ fr a)(hp:zCJ o fr=some v){next:Act->World->Prop}{Q:Exit->Act->World->Prop}(hk:Q (.panic (zC2 v)) a w):o.wp P a w next Q:=by
 unfold zCJ at hp;split at hp
 .rename_i x hop
  split at hp
  .rename_i t u he
   cases hp
   have hy:=zO (h.ev x) (by rw[he];rfl)
   have ua:(execOp a.eval o).run P w= .halt (.panic (.iface t u)) w:=by
    simp[execOp,hop,hy,Instr.panic]
   simp only[Oper.wp,ua,Oper.upon];exact hk
  cases hp
 cases hp
def zA4(P:Program)(ops:Array Oper):List Oper->List AV->ASt->(Exit->List AV->ASt->Prop)->Prop
 | [],fr,S,Q=>Q .normal fr S
 |o::os,fr,S,Q=>
  match zBU ops o fr with
  |some true=>
   match zCJ o fr with
   |some v=>Q (.panic (zC2 v)) fr S
   |none=>
    match zCd o fr with
    |some (F,args)=>∃Xb S',zL P F args S Xb S'/\match Xb with
     | .ret r=>zA4 P ops os (putA fr o.dst r) S' Q
     | .thr v=>Q (.panic (zC2 v)) fr S'
    |none=>
     match zDM P o fr S with
     |some (v,S')=>zA4 P ops os (putA fr o.dst v) S' Q
     |none=>False
  |some false=>zA4 P ops os (putA fr o.dst .un) S Q
  |none=>False
theorem zFG{P:Program}{ops:Array Oper}{Q:Exit->List AV->ASt->Prop}{Pr0:Prot}{φ0:Fi2}{a0:Act}{w0:World}:∀(os:List Oper) (i:Nat),ops.toList.drop i=os->∀(Pr:Prot) (φ:Fi2) (fr:List AV) (a:Act) (S:ASt) (w:World),RF Pr φ fr a->Rel Pr φ S w->φ≠ []->Stp Pr0 φ0 w0 Pr φ w->a.defers=a0.defers->zA4 P ops os fr S Q->
  wpOps P ops (Post Pr0 φ0 a0 w0 Q) (List.range' i os.length) a w
 | [],i,hi,Pr,φ,fr,a,S,w,h,hR,hne,Id,Dd,hk=>⟨fr,S,Pr,φ,hk,h,hR,Id,Dd⟩
 |o::os,i,hi,Pr,φ,fr,a,S,w,h,hR,hne,Id,Dd,hk=>by
  have ho:ops[i]? =some o:=by
   have:(ops.toList.drop i)[0]? =some o:=by rw[hi];rfl
   rw[List.getElem?_drop]at this
   simpa using this
  have Nd:ops.toList.drop (i+1)=os:=by rw[<-List.drop_drop,hi];rfl
  simp only[List.length_cons,List.range'_succ];rw[wpOps_cons];unfold wpOp;rw[ho];simp only[zA4]at hk
  have step:∀{v:AV} {S':ASt},Stepped P o fr S v S'->zA4 P ops os (putA fr o.dst v) S' Q->o.wp P a w (wpOps P ops (Post Pr0 φ0 a0 w0 Q) (List.range' (i+1) os.length)) (Post Pr0 φ0 a0 w0 Q):=fun hs Ea=>
   zAX h hR hne hs fun x w' Pr' φ' s1 s2 s3=>zFG os (i+1) Nd Pr' φ' _ _ _ w' ((h.mono s1.pl s1.fl).put o.dst s3) s2 (zJ s1 hne) (Id.trans s1) ((z8 _ _ _).trans Dd) Ea
  split at hk
  .rename_i hw
   simp only[zAx h hw,if_true];refine .inl ?_;split at hk
   .rename_i v hp
    exact zQK h hp ⟨fr,S,Pr,φ,hk,h,hR,Id,Dd⟩
   split at hk
   .rename_i F args hc
    obtain⟨Xb,S',h1,h2⟩:=hk
    cases Xb with
    |ret r=>exact step (zDj hc h1.det) h2
    |thr v=>exact zKh h hR hne hc h1 fun w' Pr' φ' s1 s2=>⟨fr,S',Pr',φ',h2,h.mono s1.pl s1.fl,s2,Id.trans s1,Dd⟩
   split at hk
   .rename_i v S' hs
    exact step (zFZ hs) hk
   exact hk.elim
  .rename_i hw
   simp only[zAx h hw,Bool.false_eq_true,if_false];exact zFG os (i+1) Nd Pr φ _ _ S w (h.put o.dst (Pr:=Pr) (φ:=φ) (v:=.un) (x:=undef) .un) hR hne Id ((z8 _ _ _).trans Dd) hk
  exact hk.elim
def zBH(P:Program):Code->List AV->ASt->(Exit->List AV->ASt->Prop)->Prop
 | .skip,fr,S,Q=>Q .normal fr S
 | .region _ ops cb,fr,S,Q=>if cb=true then zDN P ops fr S Q else zA4 P ops ops.toList fr S Q
 | .seq a b,fr,S,Q=>zBH P a fr S fun e fr S=>
  match e with
  | .normal=>zBH P b fr S Q
  |e=>Q e fr S
 | .cond c t e,fr,S,Q=>
  match evA fr c with
  | .p (.v (.bool b))=>if b=true then zBH P t fr S Q else zBH P e fr S Q
  |_=>False
 | .block id body,fr,S,Q=>zBH P body fr S fun e fr S=>
  match e with
  | .exit j=>if j=id then Q .normal fr S else Q (.exit j) fr S
  |e=>Q e fr S
 | .loop body,fr,S,Q=>zVk (zBH P body) fr S Q
 | .exit id,fr,S,Q=>Q (.exit id) fr S
 | .label _,fr,S,Q=>Q .normal fr S
 | .ret,fr,S,Q=>Q .ret fr S
 |_,_,_,_=>False
theorem zCs{P:Program}(hm:P.follows .mixedOrders=true):∀(c:Code) (Q:Exit->List AV->ASt->Prop) (Pr:Prot) (φ:Fi2) (fr:List AV) (a:Act) (S:ASt) (w:World),RF Pr φ fr a->Rel Pr φ S w->φ≠ []->zBH P c fr S Q->c.wp P (Post Pr φ a w Q) a w
 | .skip,Q,Pr,φ,fr,a,S,w,h,hR,hne,hk=>wp_skip ⟨fr,S,Pr,φ,hk,h,hR,Stp.refl _ _ _,rfl⟩
 | .label l,Q,Pr,φ,fr,a,S,w,h,hR,hne,hk=>wp_label ⟨fr,S,Pr,φ,hk,h,hR,Stp.refl _ _ _,rfl⟩
 | .exit id,Q,Pr,φ,fr,a,S,w,h,hR,hne,hk=>wp_exit ⟨fr,S,Pr,φ,hk,h,hR,Stp.refl _ _ _,rfl⟩
 | .ret,Q,Pr,φ,fr,a,S,w,h,hR,hne,hk=>wp_ret ⟨fr,S,Pr,φ,hk,h,hR,Stp.refl _ _ _,rfl⟩
 | .region id ops cb,Q,Pr,φ,fr,a,S,w,h,hR,hne,hk=>by
  cases cb with
  |true=>
   have Vb:zDN P ops fr S Q:=hk
   obtain⟨s1,r1⟩:=zGv hR (w.drawn+1)
   exact wp_region_any hm (Vb Pr φ a w Pr φ a _ h r1 hne s1 rfl)
  |false=>
   have Vb:zA4 P ops ops.toList fr S Q:=hk
   refine wp_region ?_
   have:=zFG (Q:=Q) ops.toList 0 rfl Pr φ fr a S w h hR hne (Stp.refl _ _ _) rfl Vb
   rwa [List.range_eq_range',<-Array.length_toList]
 | .seq x y,Q,Pr,φ,fr,a,S,w,h,hR,hne,hk=>by
  refine wp_seq (wp_mono (zCs hm x _ Pr φ fr a S w h hR hne hk) fun e a' w' hp=>?_)
  obtain⟨ia,S',Pr',φ',h1,h2,h3,h4,h5⟩:=hp
  cases e with
  |normal=>exact wp_mono (zCs hm y Q Pr' φ' ia a' S' w' h2 h3 (zJ h4 hne) h1) fun e Mg Ng hp=>Post.trans h4 h5 e Mg Ng hp
  |_=>exact⟨ia,S',Pr',φ',h1,h2,h3,h4,h5⟩
 | .cond c t e,Q,Pr,φ,fr,a,S,w,h,hR,hne,hk=>by
  simp only[zBH]at hk;split at hk
  .rename_i b hb
   have hc:=zO (h.ev c) (by rw[hb];rfl)
   refine wp_cond hc ?_
   cases b with
   |true=>exact zCs hm t Q Pr φ fr a S w h hR hne hk
   |false=>exact zCs hm e Q Pr φ fr a S w h hR hne hk
  exact hk.elim
 | .block id body,Q,Pr,φ,fr,a,S,w,h,hR,hne,hk=>by
  refine wp_block (wp_mono (zCs hm body _ Pr φ fr a S w h hR hne hk) fun e a' w' hp=>?_)
  obtain⟨ia,S',Pr',φ',h1,h2,h3,h4,h5⟩:=hp
  cases e with
  |exit j=>
   simp only[Exit.inBlock];simp only at h1;split
   .rename_i hj
    rw[if_pos hj]at h1;exact⟨ia,S',Pr',φ',h1,h2,h3,h4,h5⟩
   rename_i hj
   rw[if_neg hj]at h1
   exact⟨ia,S',Pr',φ',h1,h2,h3,h4,h5⟩
  |_=>exact⟨ia,S',Pr',φ',h1,h2,h3,h4,h5⟩
 | .loop body,Q,Pr,φ,fr,a,S,w,h,hR,hne,hk=>by
  obtain⟨α,I,F,G,μ,a0,n,hI,hw,hn,hb⟩:=hk
  obtain⟨φs,s0,Db,tf,pa⟩:=hw Pr φ a w h hR hne
  have hn2:top φs=top (G a0):=zBo tf.shape
  refine wp_loop_ghost (fun k a1 w1=>∃m rb φ1,I m/\μ m=k/\RF rb φ1 (F m) a1/\Rel rb φ1 (G m) w1/\Stp Pr φ w rb φ1 w1/\a1.defers=a.defers) (μ a0) ⟨a0,Pr,φs,hI,rfl,Db,tf,s0,rfl⟩ ?_
  rintro k a1 w1 ⟨m,rb,φ1,Dh,rfl,hf,hr,hs,hd⟩
  refine wp_mono (zCs hm body _ rb φ1 (F m) a1 (G m) w1 hf hr (zJ hs hne) (hb m Dh)) fun e a2 w2 hp=>?_
  obtain⟨ia,S',jc,φ2,h1,h2,h3,h4,h5⟩:=hp
  cases e with
  |normal=>
   obtain⟨m',Ae,hlt,Eh,ag⟩:=h1
   have pb:=hs.trans h4
   have nc:φ2≠ []:=zJ pb hne
   obtain⟨l2,φr,rfl⟩:=List.exists_cons_of_ne_nil nc
   obtain⟨l0,φ0,rfl⟩:=List.exists_cons_of_ne_nil hne
   have uf:S'≠ []:=fun h0=>by have:=h3.shape;rw[h0]at this;simp at this
   obtain⟨L',SR,rfl⟩:=List.exists_cons_of_ne_nil uf
   have Ve:l0.length<=n m':=Nat.le_trans (Nat.le_trans pa (Nat.le_of_eq hn2)) (hn m' Ae)
   have Be:RF jc (l2.take (n m')::φr) (AV.cuts (n m') ia) a2:=⟨by rw[zB8];exact h2.len,fun t c x hc hx=>by
    rw[zBi]at hc
    obtain⟨c0,h0,rfl⟩:=Option.map_eq_some_iff.1 hc
    exact(h2.at_ t c0 x h0 hx).cut⟩
   exact⟨μ m',hlt,m',jc,l2.take (n m')::φr,Ae,rfl,Be.wk (zEB Eh),zEA (zDi h3 (n m')) (zEC ag),zEf pb Ve,h5.trans hd⟩
  |_=>exact⟨ia,S',jc,φ2,h1,h2,h3,hs.trans h4,h5.trans hd⟩
 | .scope _,Q,Pr,φ,fr,a,S,w,h,hR,hne,hk=>hk.elim
 | .rangeFunc _ _ _ _,Q,Pr,φ,fr,a,S,w,h,hR,hne,hk=>hk.elim
 | .goto _,Q,Pr,φ,fr,a,S,w,h,hR,hne,hk=>hk.elim
 | .refuse _,Q,Pr,φ,fr,a,S,w,h,hR,hne,hk=>hk.elim
def zWX(P:Program)(rs:List ResultVar)(Xb:ARes)(S':ASt)(e:Exit)(fr:List AV)(S1:ASt):Prop:=
 match Xb with
 | .ret r=>zLn P rs r S' e fr S1
 | .thr v=>e= .panic (zC2 v)/\S1.tail=S'
section
variable{P:Program}{K:FuncId}{args:List AV}{S S':ASt}
theorem zL.intro{Xb:ARes}{fn:Func}{c:Code}(hm:P.follows .mixedOrders=true)(hK:∀xs w,(callFunc K xs).run P w= .ok (.enter K xs) w)(hf:P.funcs[K]? =some fn)(hb:fn.body=some c)
  (h:zBH P c (AV.ups 1 args++List.replicate (fn.ntmps-args.length) .un) ([]::S) (zWX P fn.results.toList Xb S')):zL P K args S Xb S':=by
 refine⟨hK,fun Pr φ xs w ea hR hne=>?_⟩
 refine calls_of_wp hf hb ?_
 have eb:RF Pr ([]::φ) (AV.ups 1 args++List.replicate (fn.ntmps-args.length) .un) {tmps:=xs++Array.replicate (fn.ntmps-xs.size) undef,defers:=[]}:=by
  refine⟨by simp[zAW,ea.1],fun t v x hv hx=>?_⟩
  rcases Nat.lt_or_ge t args.length with ht|ht
  .rw[List.getElem?_append_left (by rw[zAW];exact ht),zB0]at hv
   obtain⟨v0,h0,rfl⟩:=Option.map_eq_some_iff.1 hv
   simp only at hx;rw[Array.getElem?_append_left (by rw[<-ea.1];exact ht)]at hx
   exact RA.up (k:=1) (ea.2 t v0 x h0 hx)
  rw[List.getElem?_append_right (by rw[zAW];exact ht)]at hv
  simp only at hx;rw[Array.getElem?_append_right (by rw[<-ea.1];exact ht)]at hx
  rw[List.getElem?_replicate]at hv;rw[Array.getElem?_replicate]at hx;split at hv
  .split at hx
   .cases hv;cases hx;exact .un
   cases hx
  cases hv
 refine wp_mono (zCs hm c _ Pr ([]::φ) _ _ ([]::S) w eb (zCa hR) (by simp) h) fun e a' w' hp=>?_
 obtain⟨ia,S1,Pr',φ',hq,h4,h5,h6,h7⟩:=hp
 have Wb:φ'≠ []:=zJ h6 (by simp)
 obtain⟨l',φ1,rfl⟩:=List.exists_cons_of_ne_nil Wb
 have lc:S1≠ []:=fun h0=>by have:=h5.shape;rw[h0]at this;simp at this
 obtain⟨L',S2,rfl⟩:=List.exists_cons_of_ne_nil lc
 cases Xb with
 |ret r=>
  obtain⟨he,vs,h1,h2,h3⟩:=hq
  obtain⟨x,hx,ua⟩:=zCE (P:=P) (fn:=fn) h4 h5 h1
  simp only[List.tail_cons]at h3;subst h3
  have key:a'.defers=[]/\∃v,(results fn a'.tmps).run P w'= .ok v w'/\∃Pr' φ',(ARes.ret r).fits Pr' φ' (.returned v)/\Stp Pr φ w Pr' φ' w'/\Rel Pr' φ' S2 w':=
   ⟨h7,x,ua,Pr',φ1,⟨x,rfl,hx.down r h2⟩,zCw h6,zB1 h5⟩
  rcases he with rfl|rfl
  .exact key
  exact key
 |thr v=>
  obtain⟨rfl,h3⟩:=hq
  simp only[List.tail_cons]at h3;subst h3;exact⟨h7,Pr',φ1,rfl,zCw h6,zB1 h5⟩
theorem zL.assume{Xb:ARes}{p:Prop}(hK:∀xs w,(callFunc K xs).run P w= .ok (.enter K xs) w)(hp:∀(Pr:Prot) (φ:Fi2) (xs:Array Value),RL Pr φ args xs->p)(h:p->zL P K args S Xb S'):zL P K args S Xb S':=
 ⟨hK,fun Pr φ xs w ea hR hne=>(h (hp Pr φ xs ea)).2 Pr φ xs w ea hR hne⟩
theorem zL.okP{Xb:ARes}{p:PV}(hK:∀xs w,(callFunc K xs).run P w= .ok (.enter K xs) w)(j:Nat)(hj:args[j]? =some (.p p))(h:PVok p->zL P K args S Xb S'):zL P K args S Xb S':=
 zL.assume hK (fun Pr φ xs hx=>by
  obtain⟨x,h1⟩:=zLo hx hj
  cases h1 with
  |p h2=>exact⟨Pr,x,h2⟩) h
theorem zL.okA{Xb:ARes}{cs:List AV}{p:PV}(hK:∀xs w,(callFunc K xs).run P w= .ok (.enter K xs) w)(j i:Nat)(hj:args[j]? =some (.agg cs))(hi:cs[i]? =some (.p p))(h:PVok p->zL P K args S Xb S'):zL P K args S Xb S':=
 zL.assume hK (fun Pr φ xs hx=>by
  obtain⟨x,h1⟩:=zLo hx hj
  obtain⟨y,h2⟩:=zVl h1 hi
  cases h2 with
  |p h3=>exact⟨Pr,y,h3⟩) h
end
section
variable{P:Program}{fr:List AV}{S:ASt}{Q:Exit->List AV->ASt->Prop}
def zQL(P:Program)(b:Code)(Q:Exit->List AV->ASt->Prop)(e:Exit)(fr:List AV)(S:ASt):Prop:=match e with| .normal=>zBH P b fr S Q|e=>Q e fr S
theorem zt(b:Code):zQL P b Q .normal fr S=zBH P b fr S Q:=rfl
theorem zAY(b:Code)(j:Nat):zQL P b Q (.exit j) fr S=Q (.exit j) fr S:=rfl
theorem zAr(b:Code):zQL P b Q .ret fr S=Q .ret fr S:=rfl
theorem zAB(b:Code)(l:List PanicEntry):zQL P b Q (.panic l) fr S=Q (.panic l) fr S:=rfl
theorem zAZ(i:Nat)(l:List PanicEntry):BlkQ i Q (.panic l) fr S=Q (.panic l) fr S:=rfl
theorem zAa:zBH P .skip fr S Q=Q .normal fr S:=by rw[zBH]
theorem zu(id:Nat)(ops:Array Oper):zBH P (.region id ops false) fr S Q=zA4 P ops ops.toList fr S Q:=by rw[zBH,if_neg (by simp)]
theorem zQ{id:Nat}{ops:Array Oper}(h:awp P (.region id ops true) fr S Q):zBH P (.region id ops true) fr S Q:=by
 rw[zBH,if_pos rfl]
 rwa [awp,if_pos rfl]at h
theorem zAs(a b:Code):zBH P (.seq a b) fr S Q=zBH P a fr S (zQL P b Q):=by rw[zBH]<;>congr 1
theorem zAb(c:Operand)(t e:Code):zBH P (.cond c t e) fr S Q=(match evA fr c with| .p (.v (.bool b))=>if b=true then zBH P t fr S Q else zBH P e fr S Q|_=>False):=by rw[zBH]<;>rfl
theorem zAC(id:Nat)(c:Code):zBH P (.block id c) fr S Q=zBH P c fr S (BlkQ id Q):=by rw[zBH]<;>congr 1
theorem zAc(id:Nat):zBH P (.exit id) fr S Q=Q (.exit id) fr S:=by rw[zBH]
theorem zAt:zBH P .ret fr S Q=Q .ret fr S:=by rw[zBH]
theorem zv{ops:Array Oper}:zA4 P ops [] fr S Q=Q .normal fr S:=by rw[zA4]
@[reducible] def CallPn (P : Program) (F : Nat) (args : List AV) (S : ASt) (K : ARes -> ASt -> Prop) : Prop:=∃ Xb S',zL P F args S Xb S' /\ K Xb S'
def zQM(P:Program)(ops:Array Oper)(os:List Oper)(fr:List AV)(dst:Option Nat)(Q:Exit->List AV->ASt->Prop)(Xb:ARes)(S:ASt):Prop:=match Xb with
 | .ret r=>zA4 P ops os (putA fr dst r) S Q
 | .thr v=>Q (.panic (zC2 v)) fr S
theorem zAd{ops:Array Oper}(os:List Oper)(dst:Option Nat)(r:AV):zQM P ops os fr dst Q (.ret r) S=zA4 P ops os (putA fr dst r) S Q:=rfl
theorem zAe{ops:Array Oper}(os:List Oper)(dst:Option Nat)(v:Value):zQM P ops os fr dst Q (.thr v) S=Q (.panic (zC2 v)) fr S:=rfl
theorem zi{ops:Array Oper}(o:Oper)(os:List Oper):zA4 P ops (o::os) fr S Q=(match zBU ops o fr with
  |some true=>
   match zCJ o fr with
   |some v=>Q (.panic (zC2 v)) fr S
   |none=>
    match zCd o fr with
    |some (F,args)=>CallPn P F args S (zQM P ops os fr o.dst Q)
    |none=>
     match zDM P o fr S with
     |some (v,S')=>zA4 P ops os (putA fr o.dst v) S' Q
     |none=>False
  |some false=>zA4 P ops os (putA fr o.dst .un) S Q
  |none=>False):=by rw[zA4]<;>rfl
theorem zAu{rs:List ResultVar}{r:AV}{S':ASt}(e:Exit):zWX P rs (.ret r) S' e fr S=zLn P rs r S' e fr S:=rfl
theorem zAv{rs:List ResultVar}{v:Value}{S':ASt}(e:Exit):zWX P rs (.thr v) S' e fr S=(e= .panic (zC2 v)/\S.tail=S'):=rfl
theorem CallPn.det{F:Nat}{args:List AV}{K:ARes->ASt->Prop}(h:CallQ P F args S fun r S'=>K (.ret r) S'):CallPn P F args S K:=by
 obtain⟨r,S',h1,h2⟩:=h
 exact⟨_,_,h1.call,h2⟩
end
section
variable{α:Type}{I:α->Prop}{F:α->List AV}{G:α->ASt}{μ:α->Nat}{m n:Nat}{Q:Exit->List AV->ASt->Prop}{ia:List AV}{S':ASt}
theorem zAL(l:List PanicEntry):zJS I F G μ m n Q (.panic l) ia S'=Q (.panic l) ia S':=rfl
theorem zAM{n:α->Nat}(l:List PanicEntry):zIP I F G μ m n Q (.panic l) ia S'=Q (.panic l) ia S':=rfl
end
theorem zBg{P:Program}{fr:List AV}{S:ASt}{Q:Exit->List AV->ASt->Prop}{body:Code}{α:Type}(I:α->Prop)(F:α->List AV)(G:α->ASt)(μ:α->Nat)(a0:α)(h0:I a0)(hF:wkR fr (F a0))(hG:wkT S (G a0))(h:∀a,I a->zBH P body (F a) (G a) (zJS I F G μ (μ a) (top (G a0)) Q)):zBH P (.loop body) fr S Q:=⟨α,I,F,G,μ,a0,fun _=>top (G a0),h0,.wk hF hG,fun _ _=>Nat.le_refl _,h⟩
theorem zj{P:Program}{fr:List AV}{L:List AObj}{R:ASt}{Q:Exit->List AV->ASt->Prop}{body:Code}{α:Type}(E:TypeId)(k:Nat)(hk:0<k)(L':List AObj)(I:α->Prop)(F:α->List AV)(G:α->ASt)(μ:α->Nat)(a0:α)(h0:I a0)(eb:wkNR k L.length fr (F a0))(hL:wkNL k L.length L L')(hG:G a0=((L'++[.tok E k 0])::R))(h:∀a,I a->zBH P body (F a) (G a) (zJS I F G μ (μ a) (top (G a0)) Q)):zBH P (.loop body) fr (L::R) Q:=⟨α,I,F,G,μ,a0,fun _=>top (G a0),h0,by rw[hG];exact zBA.ghost E k hk eb hL,fun _ _=>Nat.le_refl _,h⟩
end Go.Proofs.YtgpajpilkapciaaGreatDoor
namespace Go.Proofs.YtgpajpilkapciaaGreatDoor
open Go.RowKit
def cutO(cs:List Nat)(k:Nat)(o:Oper):Oper:=if cs.contains k=true then {o with op:=.move (.global 0),dst:=none,guard:=none}else o
def cutL(cs:List Nat):Nat->List Oper->List Oper
 |_,[]=>[]
 |k,o::os=>cutO cs k o::cutL cs (k+1) os
theorem zM5(cs:List Nat):∀(os:List Oper) (k i:Nat),(cutL cs k os)[i]? =(os[i]?).map (cutO cs (k+i))
 | [],k,i=>by simp[cutL]
 |o::os,k,0=>by simp[cutL]
 |o::os,k,i+1=>by
  simp only[cutL,List.getElem?_cons_succ];rw[zM5 cs os (k+1) i]
  congr 2
  omega
theorem zM6(cs:List Nat):∀(os:List Oper) (k:Nat),(cutL cs k os).length=os.length
 | [],k=>rfl
 |o::os,k=>by simp[cutL,zM6 cs os]
def cutR(cs:List Nat)(ops:Array Oper):Array Oper:=(cutL cs 0 ops.toList).toArray
def zTe(i0:Nat)(cs:List Nat)(ops:Array Oper):Bool:=
 let M:=zOE (cutR cs ops).toList []
 match ops[i0]? with
 |none=>false
 |some o0=>cs.contains i0&&(cs.all fun k=>k==i0||(M.getD k 0).testBit i0)&&
  (ops.toList.zipIdx.all fun q=>cs.contains q.2||(
   (zAq q.1 !=2||(M.getD i0 0).testBit q.2)&&
   (match q.1.dst with|some t=>!(o0.looksAt ops).contains t||(M.getD i0 0).testBit q.2|none=>true)&&
   (match q.1.guard with|some g=>!cs.contains g.1|none=>true)))
section
variable{P:Program}{ops:Array Oper}{cs:List Nat}{i0:Nat}
theorem zA5(i:Nat):(cutR cs ops)[i]? =(ops[i]?).map (cutO cs i):=by
 unfold cutR;rw[List.getElem?_toArray,zM5,Nat.zero_add,Array.getElem?_toList]
theorem zFf:(cutR cs ops).size=ops.size:=by simp[cutR,zM6]
theorem zQN{k:Nat}{o:Oper}(h:cs.contains k=true):cutO cs k o={o with op:=.move (.global 0),dst:=none,guard:=none}:=by
 rw[cutO,if_pos h]
theorem zG0{k:Nat}{o:Oper}(h:cs.contains k=false):cutO cs k o=o:=by
 rw[cutO,if_neg (by rw[h];decide)]
theorem zOJ{k:Nat}{o:Oper}:(cutO cs k o).after=o.after:=by
 unfold cutO;split<;>rfl
theorem zQO(ba:Array Bool):Region.ready .any ops ba=Region.ready .any (cutR cs ops) ba:=by
 unfold Region.ready;rw[zFf];refine List.filter_congr fun j hj=>?_
 rw[zA5]
 cases ops[j]? with
 |none=>rfl
 |some x=>simp only[Option.map_some,zOJ]
theorem zOK{o:Oper}(hg:∀g b,o.guard=some (g,b)->cs.contains g=false)(ts:Array Value):Region.wanted o (yielded (cutR cs ops) ts)=Region.wanted o (yielded ops ts):=by
 have e:∀g,cs.contains g=false->yielded (cutR cs ops) ts g=yielded ops ts g:=fun g h=>by
  unfold yielded
  have:((cutR cs ops)[g]?).bind (·.dst)=(ops[g]?).bind (·.dst):=by
   rw[zA5]
   cases ops[g]? with
   |none=>rfl
   |some x=>rw[Option.map_some,zG0 h]
  rw[this]
 unfold Region.wanted
 cases Sl:o.guard with
 |none=>rfl
 |some g=>
  obtain⟨g,b⟩:=g
  simp only[e g (hg g b Sl)]
theorem zOL(h:zTe i0 cs ops=true):∃o0,ops[i0]? =some o0/\cs.contains i0=true/\(∀k,cs.contains k=true->k≠i0->ordB (cutR cs ops) i0 k=true)/\
  ∀k o,ops[k]? =some o->cs.contains k=false->(zAq o=2->ordB (cutR cs ops) k i0=true)/\(∀t,o.dst=some t->t∈o0.looksAt ops->ordB (cutR cs ops) k i0=true)/\∀g b,o.guard=some (g,b)->cs.contains g=false:=by
 unfold zTe at h;simp only at h;split at h
 .cases h
 rename_i o0 Cg
 simp only[Bool.and_eq_true,List.all_eq_true,Bool.or_eq_true,beq_iff_eq]at h
 obtain⟨⟨h1,h2⟩,h3⟩:=h
 refine⟨o0,Cg,h1,fun k hk hne=>?_,fun k o ho hc=>?_⟩
 .rcases h2 k (by simpa using hk)with h|h
  .exact absurd h hne
  exact h
 rcases h3 (o,k) (List.mem_zipIdx_iff_getElem?.2 (by simpa using ho))with h|⟨⟨ha,hb⟩,hd⟩
 .simp only at h;rw[hc]at h;cases h
 refine⟨fun hk=>?_,fun t ht hm=>?_,fun g b hg=>?_⟩
 .rcases ha with ha|ha
  .simp[hk]at ha
  exact ha
 .simp only[ht,Bool.or_eq_true]at hb
  rcases hb with hb|hb
  .simp[hm]at hb
  exact hb
 simp only[hg,Bool.not_eq_true']at hd
 exact hd
theorem zM7{D:Nat->Bool}(hJ:zDF ops D){i:Nat}{o:Oper}(ho:ops[i]? =some o)(hr:∀e∈o.after,Region.binds .any e=true->D e.on=true){k:Nat}(hk:Anc ops i k):D k=true:=by
 cases hk with
 |step wa he hb=>rw[ho]at wa;cases wa;exact hr _ he hb
 |trans wa he hb ht=>rw[ho]at wa;cases wa;exact zDV hJ ht (hr _ he hb)
variable{fr0:List AV}{S0:ASt}{V:Nat->AV}{Sx:Nat->ASt}
theorem Drawn.thr(na:zTe i0 cs ops=true)(hd:Drawn P (cutR cs ops) fr0 S0 V Sx){Q:Exit->List AV->ASt->Prop}{F:FuncId}{args:List AV}{v:Value}{T:ASt}
  (hc:∀o0,ops[i0]? =some o0->zBU ops o0 (frD (cutR cs ops) V (fun _=>true) (List.range (cutR cs ops).size) fr0)=some true/\zCd o0 (frD (cutR cs ops) V (fun _=>true) (List.range (cutR cs ops).size) fr0)=some (F,args)) (hA:zL P F args (Sx (cutR cs ops).size) (.thr v) T) (hQ:∀fr,Q (.panic (zC2 v)) fr T)
  {Pr0:Prot} {φ0:Fi2} {a0:Act} {w0:World}:
  ∀(fuel:Nat) (ba:Array Bool) (Pr:Prot) (φ:Fi2) (a:Act) (w:World),ba.size=(cutR cs ops).size->ba.getD i0 false=false->((List.range (cutR cs ops).size).filter fun j=>!ba.getD j true).length<=fuel->zDF (cutR cs ops) (fun j=>ba.getD j false)->
   RF Pr φ (frD (cutR cs ops) V (fun j=>ba.getD j false) (List.range (cutR cs ops).size) fr0) a->Rel Pr φ (Sc (cutR cs ops) Sx (fun j=>ba.getD j false) (List.range (cutR cs ops).size) (Sx 0)) w->φ≠ []->Stp Pr0 φ0 w0 Pr φ w->a.defers=a0.defers->wpAny P .any ops (Post Pr0 φ0 a0 w0 Q) fuel ba a w:=by
 obtain⟨o0,Cg,Vk,Tl,Ea⟩:=zOL na
 obtain⟨Hd,Rc⟩:=hc o0 Cg
 have mo:∀i,(cutR cs ops)[i]? =(ops[i]?).map (cutO cs i):=zA5
 have Og:∀ba,Region.ready .any ops ba=Region.ready .any (cutR cs ops) ba:=zQO
 have no:(cutR cs ops).size=ops.size:=zFf
 have Gs:∀(o:Oper),(∀g b,o.guard=some (g,b)->cs.contains g=false)->∀ts,Region.wanted o (yielded (cutR cs ops) ts)=Region.wanted o (yielded ops ts):=fun o hg ts=>zOK hg ts
 have po:i0<(cutR cs ops).size:=by rw[no];exact zCI Cg
 generalize cutR cs ops=c at*
 obtain⟨g1,g2⟩:=zDT hd.stat
 have Vd:∀(ba:Array Bool),ba.size=c.size->ba.getD i0 false=false->Region.ready .any c ba≠ []:=by
  intro ba Xa xc hr
  have ja:∀i,i<c.size->ba.getD i false=true:=by
   intro i
   induction i using Nat.strongRecOn with
   |_ i ih=>
    intro hi
    cases hl:ba.getD i false with
    |true=>rfl
    |false=>
     have ho:c[i]? =some c[i]:=Array.getElem?_eq_getElem hi
     have vf:i∈Region.ready .any c ba:=by
      refine List.mem_filter.2 ⟨List.mem_range.2 hi,?_⟩
      have xf:ba.getD i true=false:=by
       have ue:i<ba.size:=by omega
       simp[Array.getD,ue]at hl ⊢;exact hl
      simp only[xf,Bool.not_false,Bool.true_and,ho,Option.map_some,Option.getD_some];rw[Array.all_eq_true];intro x hx
      cases hb:Region.binds .any c[i].after[x]with
      |false=>simp
      |true=>
       have hlt:=g1 i _ ho c[i].after[x] (Array.getElem_mem hx) hb
       simp only[Bool.not_true,Bool.false_or];exact ih _ hlt (by omega)
     rw[hr]at vf;cases vf
  rw[ja i0 po]at xc;cases xc
 intro fuel
 induction fuel with
 |zero=>
  intro ba Pr φ a w Xa xc yf hJ hf hR hne hs Ec
  exfalso
  refine Vd ba Xa xc ?_
  have h0:(List.range c.size).filter (fun j=>!ba.getD j true)=[]:=List.eq_nil_of_length_eq_zero (by omega)
  rw[List.eq_nil_iff_forall_not_mem];intro j hj
  obtain⟨h1,h2⟩:=List.mem_filter.1 hj
  simp only[Bool.and_eq_true]at h2
  have:j∈(List.range c.size).filter (fun j=>!ba.getD j true):=List.mem_filter.2 ⟨h1,h2.1⟩
  rw[h0]at this;cases this
 |succ fuel ih=>
  intro ba Pr φ a w Xa rk yf hJ hf hR hne hs Ec;refine⟨fun hr=>absurd (by rw[<-Og];exact hr) (Vd ba Xa rk),fun i hi=>?_⟩
  rw[Og]at hi
  obtain⟨Za,o,ho,ja⟩:=mem_ready.1 hi
  have Wk:i<c.size:=zCI ho
  have ue:i<ba.size:=by omega
  have xc:ba.getD i false=false:=by
   simp[Array.getD,ue]at Za ⊢;exact Za
  have Hc:∀e∈o.after,Region.binds .any e=true->ba.getD e.on false=true:=ja
  have Of:∃oc,ops[i]? =some oc/\cutO cs i oc=o:=by
   rw[mo]at ho;exact Option.map_eq_some_iff.1 ho
  obtain⟨oc,Of,Dq⟩:=Of
  by_cases qo:i=i0
  .--the call itself
   subst qo;rw[Cg]at Of;cases Of
   have Cj:∀k,ordB c k i=true->ba.getD k false=true:=fun k hk=>zM7 (D:=fun j=>ba.getD j false) hJ ho Hc (zFd hk)
   have Dj:∀t∈o0.looksAt ops,(frD c V (fun j=>ba.getD j false) (List.range c.size) fr0)[t]? =(frD c V (fun _=>true) (List.range c.size) fr0)[t]?:=fun t ht=>by
    refine zCH _ _ _ rfl rfl fun j hj Gc=>?_
    have Eq:j<c.size:=List.mem_range.1 hj
    have Yk:j<ops.size:=by omega
    have Ul:ops[j]? =some ops[j]:=Array.getElem?_eq_getElem Yk
    unfold dstO at Gc;rw[mo,Ul,Option.map_some,Option.bind_some]at Gc
    cases Ie:cs.contains j with
    |true=>rw[zQN Ie]at Gc;cases Gc
    |false=>
     rw[zG0 Ie]at Gc;exact Cj j ((Ea j _ Ul Ie).2.1 t Gc ht)
   have ki:Sc c Sx (fun j=>ba.getD j false) (List.range c.size) (Sx 0)=Sx c.size:=by
    rw[zCq (D':=fun j=>decide (j<c.size)) _ _ fun j hj Ii=>?_]
    .exact hd.all_to _ (Nat.le_refl _)
    have Eq:j<c.size:=List.mem_range.1 hj
    have Yk:j<ops.size:=by omega
    have Ul:ops[j]? =some ops[j]:=Array.getElem?_eq_getElem Yk
    unfold chO at Ii;rw[mo,Ul,Option.map_some]at Ii
    cases Ie:cs.contains j with
    |true=>rw[zQN Ie]at Ii;simp[zAq]at Ii
    |false=>
     rw[zG0 Ie]at Ii
     have hk:zAq ops[j]=2:=by simpa using Ii
     rw[Cj j ((Ea j _ Ul Ie).1 hk)];simp[Eq]
   rw[ki]at hR;unfold wpOp;rw[Cg];simp only;rw[<-zCA Dj]at Hd;rw[<-zDk (zGw Dj)]at Rc;simp only[zAx hf Hd,if_true]
   left
   exact zKh hf hR hne Rc hA fun w' Pr' φ' s1 s2=>⟨_,T,Pr',φ',hQ _,hf.mono s1.pl s1.fl,s2,hs.trans s1,Ec⟩
  .cases Ie:cs.contains i with
   |true=>
    have h1:ba.getD i0 false=true:=zM7 (D:=fun j=>ba.getD j false) hJ ho Hc (zFd (Tl i Ie qo))
    rw[rk]at h1;cases h1
   |false=>
    rw[zG0 Ie]at Dq;subst Dq
    have Sl:=(Ea i _ Of Ie).2.2
    have wc:∀j,(ba.setIfInBounds i true).getD j false=if j=i then true else ba.getD j false:=fun j=>by
     by_cases hj:j=i
     .subst hj;simp[Array.getD,ue]
     rw[if_neg hj]
     simp only[Array.getD_eq_getD_getElem?];rw[Array.getElem?_setIfInBounds_ne (by omega)]
    have Kl:zDF c (fun j=>(ba.setIfInBounds i true).getD j false):=fun j x hx hj e he hb=>by
     show(ba.setIfInBounds i true).getD e.on false=true
     rw[wc];split
     .rfl
     by_cases Qc:j=i
     .subst Qc;rw[ho]at hx;cases hx;exact Hc e he hb
     have:ba.getD j false=true:=by
      have xg:(ba.setIfInBounds i true).getD j false=true:=hj
      rw[wc,if_neg Qc]at xg;exact xg
     exact hJ j x hx this e he hb
    have Td:((List.range c.size).filter fun j=>!(ba.setIfInBounds i true).getD j true).length<=fuel:=by
     have h1:((List.range c.size).filter fun j=>!(ba.setIfInBounds i true).getD j true)=((List.range c.size).filter fun j=>!ba.getD j true).filter (fun j=>!(j==i)):=by
      rw[List.filter_filter];refine List.filter_congr fun j hj=>?_
      by_cases Qc:j=i
      .subst Qc;simp[Array.getD,ue]
      simp only[Array.getD_eq_getD_getElem?]
      rw[Array.getElem?_setIfInBounds_ne (by omega)]
      simp[Qc]
     have h2:i∈(List.range c.size).filter fun j=>!ba.getD j true:=List.mem_filter.2 ⟨List.mem_range.2 Wk,by rw[Za];rfl⟩
     have h3:(((List.range c.size).filter fun j=>!ba.getD j true).filter (fun j=>!(j==i))).length<((List.range c.size).filter fun j=>!ba.getD j true).length:=by
      refine List.length_filter_lt_length_iff_exists.2 ⟨i,h2,by simp⟩
     rw[h1];omega
    have Kb:=hd.looks (D:=fun j=>ba.getD j false) hJ ho xc Hc
    have yg:=zGw Kb
    have Ud:=hd.put (D:=fun j=>ba.getD j false) (D':=fun j=>(ba.setIfInBounds i true).getD j false) hJ ho xc Hc wc
    have ro:(ba.setIfInBounds i true).getD i0 false=false:=by rw[wc,if_neg (fun h=>qo h.symm)];exact rk
    have go:∀(S':ASt),Sc c Sx (fun j=>(ba.setIfInBounds i true).getD j false) (List.range c.size) (Sx 0)=S'->∀x w' Pr' φ',Stp Pr φ w Pr' φ' w'->Rel Pr' φ' S' w'->RA Pr' φ' (V i) x->wpAny P .any ops (Post Pr0 φ0 a0 w0 Q) fuel (ba.setIfInBounds i true) (a.put oc.dst x) w':=by
     intro S' uf x w' Pr' φ' s1 s2 s3;refine ih (ba.setIfInBounds i true) Pr' φ' _ w' (by simpa using Xa) ro Td Kl ?_ ?_ (zJ s1 hne) (hs.trans s1) ((z8 _ _ _).trans Ec)
     .rw[Ud];exact(hf.mono s1.pl s1.fl).put oc.dst s3
     rw[uf];exact s2
    have Lb:zAq oc≠2->Sc c Sx (fun j=>(ba.setIfInBounds i true).getD j false) (List.range c.size) (Sx 0)=Sc c Sx (fun j=>ba.getD j false) (List.range c.size) (Sx 0):=fun hk=>zCq _ _ fun j _ hc=>by
     rw[wc,if_neg (fun Qc=>?_)]
     subst Qc;simp[chO,ho]at hc;exact hk hc
    have Bj:∀{b:Bool},zBU c oc (frD c V (fun j=>ba.getD j false) (List.range c.size) fr0)=some b->Region.wanted oc (yielded ops a.tmps)=b:=fun h=>by
     rw[<-Gs oc Sl];exact zAx hf h
    unfold wpOp;rw[Of];simp only
    rcases hd.step i oc ho with⟨hw,hV,ck⟩|⟨hw,Af⟩
    .rw[zCA Kb]at hw
     simp only[Bj hw,Bool.false_eq_true,if_false];refine go _ ?_ undef w Pr φ (Stp.refl _ _ _) hR (by rw[hV];exact .un)
     by_cases hk:zAq oc=2
     .rw[hd.chain_next (D:=fun j=>ba.getD j false) hJ ho xc Hc hk wc,ck,hd.chain (D:=fun j=>ba.getD j false) hJ ho xc Hc hk]
     exact Lb hk
    rw[zCA Kb]at hw
    simp only[Bj hw,if_true]
    left
    rcases Af with⟨h1,hk,_⟩|⟨ref,h1,hk,_,hm⟩|⟨hk,h1⟩
    .rw[zFc yg]at h1
     exact zAX hf hR hne (.quiet h1) (go _ (Lb (by omega)))
    .have h2:=zHU yg h1 (S':=Sc c Sx (fun j=>ba.getD j false) (List.range c.size) (Sx 0)) fun d k hr=>hd.kept (D:=fun j=>ba.getD j false) hJ ho xc Hc (hm d k hr)
     exact zAX hf hR hne (.load h2) (go _ (Lb (by omega)))
    have Fh:=hd.chain (D:=fun j=>ba.getD j false) hJ ho xc Hc hk
    have ki:=hd.chain_next (D:=fun j=>ba.getD j false) hJ ho xc Hc hk wc
    rw[Fh]at hR
    rcases h1 with⟨lg,h1⟩|⟨F,args,h1,h2⟩
    .rw[zHV yg]at h1
     exact zAX hf hR hne (.chain h1) (go _ ki)
    rw[zDk yg]at h1
    exact zAX hf hR hne (zDj h1 h2) (go _ ki)
def ThrK(P:Program)(ops:Array Oper)(i0:Nat)(Q:Exit->List AV->ASt->Prop)(fr:List AV)(S:ASt):Prop:=
 match ops[i0]? with
 |none=>False
 |some o=>zBU ops o fr=some true/\match zCd o fr with
  |none=>False
  |some (F,args)=>∃v T,zL P F args S (.thr v) T/\∀fr,Q (.panic (zC2 v)) fr T
theorem z5{id:Nat}{fr:List AV}{S:ASt}{Q:Exit->List AV->ASt->Prop}(i0:Nat)(cs:List Nat)(Wa:List (Nat × Nat))(na:zTe i0 cs ops=true)(Aa:zKR (cutR cs ops)=true)(We:zIg (cutR cs ops)=Wa)(h:awpD P (cutR cs ops) Wa (ThrK P ops i0 Q) (cutL cs 0 ops.toList) 0 fr S [] [S] []):zBH P (.region id ops true) fr S Q:=by
 rw[zBH,if_pos rfl]
 obtain⟨V,Sx,hd,hK⟩:=zJT Wa Aa We (by simpa [cutR]using h)
 unfold ThrK at hK;split at hK
 .exact hK.elim
 rename_i o0 Cg
 obtain⟨hw,hK⟩:=hK
 split at hK
 .exact hK.elim
 rename_i F args Rc
 obtain⟨v,T,hA,hQ⟩:=hK
 intro Pr0 φ0 a0 w0 Pr φ a w hf hR hne hs Ec
 have e0:∀j,(Array.replicate ops.size false).getD j false=false:=fun j=>by
  simp only[Array.getD_eq_getD_getElem?,Array.getElem?_replicate];split<;>rfl
 have e1:∀(l:List Nat) (fr:List AV),frD (cutR cs ops) V (fun j=>(Array.replicate ops.size false).getD j false) l fr=fr:=fun l=>by
  induction l with
  |nil=>intro fr;rfl
  |cons j l ih=>intro fr;rw[frD,e0,if_neg (by simp),ih]
 have e2:∀(l:List Nat) (S:ASt),Sc (cutR cs ops) Sx (fun j=>(Array.replicate ops.size false).getD j false) l S=S:=fun l=>by
  induction l with
  |nil=>intro S;rfl
  |cons j l ih=>intro S;rw[Sc,e0,Bool.false_and,if_neg (by simp),ih]
 refine hd.thr na (fun o ho=>by rw[Cg]at ho;cases ho;exact⟨hw,Rc⟩) hA hQ ops.size _ Pr φ a w (by simp[zFf]) (e0 _) (Nat.le_trans (List.length_filter_le _ _) (by simp[zFf])) (fun i o ho hi=>by
  have h1:(Array.replicate ops.size false).getD i false=true:=hi
  rw[e0]at h1;cases h1) ?_ ?_ hne hs Ec
 .rw[e1];exact hf
 rw[e2,hd.start];exact hR
end
end Go.Proofs.YtgpajpilkapciaaGreatDoor
namespace Go.Proofs.YtgpajpilkapciaaGreatDoor
open Go.RowKit
def zKi(P:Program)(K:FuncId)(args:List AV)(S:ASt)(u u':FrameMode)(S':ASt):Prop:=
 (∀xs w,(callFunc K xs).run P w= .ok (.enter K xs) w)/\∀Pr φ (xs:Array Value) w,RL Pr φ args xs->Rel Pr φ S w->φ≠ []->
  CallsD P K xs u w fun e v w'=>v=u'/\∃x Pr' φ',e= .returned x/\Stp Pr φ w Pr' φ' w'/\Rel Pr' φ' S' w'
def zJZ(P:Program):List AV->FrameMode->ASt->ASt->Prop
 | [],u,S,S'=>u= .returning/\S=S'
 | .fn (.func K) la lb::vs,u,S,S'=>u≠ .run/\∃u' S1,zKi P K (la++lb) S u u' S1/\zJZ P vs (settle u') S1 S'
 |_::_,_,_,_=>False
section
variable{P:Program}
theorem zGf{fn:Func}{a:Act}{fr:List AV}{Zm:List AV}{R:Ending->World->Prop}{Pr0:Prot}{φ0:Fi2}{w0:World}{S':ASt}(Tb:resA P fr S' fn.results.toList=some Zm)(Ui:∀Pr φ w x,Stp Pr0 φ0 w0 Pr φ w->Rel Pr φ S' w->RA Pr φ (retA Zm) x->R (.returned x) w):
  ∀(vs:List AV) (ds:List Deferred) (u:FrameMode) (Pr:Prot) (φ:Fi2) (S:ASt) (w:World),DR Pr φ vs ds->RF Pr φ fr a->Rel Pr φ S w->φ≠ []->Stp Pr0 φ0 w0 Pr φ w->zJZ P vs u S S'->Leaves P fn a.tmps R ds u w
 | [],[],u,Pr,φ,S,w,hd,hf,hR,hne,hs,hk=>by
  obtain⟨rfl,rfl⟩:=hk
  obtain⟨x,hx,ua⟩:=zCE (P:=P) (fn:=fn) hf hR Tb
  exact⟨x,ua,Ui Pr φ w x hs hR hx⟩
 | [],_::_,u,Pr,φ,S,w,hd,hf,hR,hne,hs,hk=>hd.elim
 |_::_,[],u,Pr,φ,S,w,hd,hf,hR,hne,hs,hk=>hd.elim
 |v::vs,d::ds,u,Pr,φ,S,w,⟨⟨f,la,lb,cap,h1,h2,h3⟩,hd⟩,hf,hR,hne,hs,hk=>by
  subst h1
  cases f with
  |func K=>
   obtain⟨hu,u',S1,⟨hK,hc⟩,hk⟩:=hk
   obtain⟨t,xs⟩:=d
   simp only at h2 h3;subst h2
   cases h3 with
   |fn l1 l2 c1 c2=>
    have ea:RL Pr φ (la++lb) (xs++cap):=RL.append ⟨l1,c1⟩ ⟨l2,c2⟩
    refine leaves_cons hu (f:=K) (args:=xs++cap) (by simp[invoke,hK]) ?_
    refine(hc Pr φ _ w ea hR hne).mono fun e v w' hp=>?_
    obtain⟨rfl,x,Pr',φ',rfl,s1,r1⟩:=hp
    exact zGf Tb Ui vs ds (settle v) Pr' φ' S1 w' (hd.mono s1.pl s1.fl) (hf.mono s1.pl s1.fl) r1 (zJ s1 hne) (hs.trans s1) hk
  |_=>exact hk.elim
def zDp(P:Program):Code->List AV->ASt->List AV->(Exit->List AV->ASt->List AV->Prop)->Prop
 | .region id ops cb,fr,S,ds,Q=>if(ops.toList.any zFE&& !cb)=true then zAl P ops ops.toList fr S ds (Q .normal)else zBH P (.region id ops cb) fr S fun e fr S=>Q e fr S ds
 | .seq a b,fr,S,ds,Q=>zDp P a fr S ds fun e fr S ds=>
  match e with
  | .normal=>zDp P b fr S ds Q
  |e=>Q e fr S ds
 | .cond c t e,fr,S,ds,Q=>
  match evA fr c with
  | .p (.v (.bool b))=>if b=true then zDp P t fr S ds Q else zDp P e fr S ds Q
  |_=>False
 | .block id body,fr,S,ds,Q=>zDp P body fr S ds fun e fr S ds=>
  match e with
  | .exit j=>if j=id then Q .normal fr S ds else Q (.exit j) fr S ds
  |e=>Q e fr S ds
 | .loop body,fr,S,ds,Q=>zQF (zDp P body) fr S ds Q
 | .exit id,fr,S,ds,Q=>Q (.exit id) fr S ds
 | .label _,fr,S,ds,Q=>Q .normal fr S ds
 | .ret,fr,S,ds,Q=>Q .ret fr S ds
 | .skip,fr,S,ds,Q=>Q .normal fr S ds
 |_,_,_,_,_=>False
theorem zTf{c:Code}(hm:P.follows .mixedOrders=true){Q:Exit->List AV->ASt->List AV->Prop}{Pr:Prot}{φ:Fi2}{fr:List AV}{a:Act}{S:ASt}{ds:List AV}{w:World}(h:RF Pr φ fr a)(hR:Rel Pr φ S w)(hne:φ≠ [])(hd:DR Pr φ ds a.defers)(hk:zBH P c fr S fun e fr S=>Q e fr S ds):c.wp P (zD7 Pr φ w Q) a w:=
 wp_mono (zCs hm c _ Pr φ fr a S w h hR hne hk) fun e a' w' hp=>by
  obtain⟨ia,S',Pr',φ',h1,h2,h3,h4,h5⟩:=hp
  exact⟨ia,S',ds,Pr',φ',h1,h2,h3,h4,by rw[h5];exact hd.mono h4.pl h4.fl⟩
theorem zDq(hm:P.follows .mixedOrders=true):∀(c:Code) (Q:Exit->List AV->ASt->List AV->Prop) (Pr:Prot) (φ:Fi2) (fr:List AV) (a:Act) (S:ASt) (ds:List AV) (w:World),RF Pr φ fr a->Rel Pr φ S w->φ≠ []->DR Pr φ ds a.defers->zDp P c fr S ds Q->c.wp P (zD7 Pr φ w Q) a w
 | .skip,Q,Pr,φ,fr,a,S,ds,w,h,hR,hne,hd,hk=>wp_skip ⟨fr,S,ds,Pr,φ,hk,h,hR,Stp.refl _ _ _,hd⟩
 | .label l,Q,Pr,φ,fr,a,S,ds,w,h,hR,hne,hd,hk=>wp_label ⟨fr,S,ds,Pr,φ,hk,h,hR,Stp.refl _ _ _,hd⟩
 | .exit id,Q,Pr,φ,fr,a,S,ds,w,h,hR,hne,hd,hk=>wp_exit ⟨fr,S,ds,Pr,φ,hk,h,hR,Stp.refl _ _ _,hd⟩
 | .ret,Q,Pr,φ,fr,a,S,ds,w,h,hR,hne,hd,hk=>wp_ret ⟨fr,S,ds,Pr,φ,hk,h,hR,Stp.refl _ _ _,hd⟩
 | .region id ops cb,Q,Pr,φ,fr,a,S,ds,w,h,hR,hne,hd,hk=>by
  simp only[zDp]at hk;split at hk
  .rename_i hc
   simp only[Bool.and_eq_true,Bool.not_eq_true']at hc;rw[hc.2];refine wp_region ?_
   have:=zC1 (Q:=Q) (fun _ _ _ h=>h) ops.toList 0 rfl Pr φ fr a S ds w h hR hne (Stp.refl _ _ _) hd hk
   rwa [List.range_eq_range',<-Array.length_toList]
  exact zTf hm h hR hne hd hk
 | .seq x y,Q,Pr,φ,fr,a,S,ds,w,h,hR,hne,hd,hk=>by
  refine wp_seq (wp_mono (zDq hm x _ Pr φ fr a S ds w h hR hne hd hk) fun e a' w' hp=>?_)
  obtain⟨ia,S',yc,Pr',φ',h1,h2,h3,h4,h5⟩:=hp
  cases e with
  |normal=>exact wp_mono (zDq hm y Q Pr' φ' ia a' S' yc w' h2 h3 (zJ h4 hne) h5 h1) fun e Mg Ng hp=>zD7.trans h4 e Mg Ng hp
  |_=>exact⟨ia,S',yc,Pr',φ',h1,h2,h3,h4,h5⟩
 | .cond c t e,Q,Pr,φ,fr,a,S,ds,w,h,hR,hne,hd,hk=>by
  simp only[zDp]at hk;split at hk
  .rename_i b hb
   have hc:=zO (h.ev c) (by rw[hb];rfl)
   refine wp_cond hc ?_
   cases b with
   |true=>exact zDq hm t Q Pr φ fr a S ds w h hR hne hd hk
   |false=>exact zDq hm e Q Pr φ fr a S ds w h hR hne hd hk
  exact hk.elim
 | .block id body,Q,Pr,φ,fr,a,S,ds,w,h,hR,hne,hd,hk=>by
  refine wp_block (wp_mono (zDq hm body _ Pr φ fr a S ds w h hR hne hd hk) fun e a' w' hp=>?_)
  obtain⟨ia,S',yc,Pr',φ',h1,h2,h3,h4,h5⟩:=hp
  cases e with
  |exit j=>
   simp only[Exit.inBlock];simp only at h1;split
   .rename_i hj
    rw[if_pos hj]at h1;exact⟨ia,S',yc,Pr',φ',h1,h2,h3,h4,h5⟩
   rename_i hj
   rw[if_neg hj]at h1
   exact⟨ia,S',yc,Pr',φ',h1,h2,h3,h4,h5⟩
  |_=>exact⟨ia,S',yc,Pr',φ',h1,h2,h3,h4,h5⟩
 | .loop body,Q,Pr,φ,fr,a,S,ds,w,h,hR,hne,hd,hk=>by
  obtain⟨α,I,F,G,D,μ,a0,n,hI,mb,Bg,io,hn,hb⟩:=hk
  have Db:RF Pr φ (F a0) a:=h.wk (zEB mb)
  have tf:Rel Pr φ (G a0) w:=zEA hR (zEC Bg)
  have hn2:top φ=top (G a0):=zBo tf.shape
  refine wp_loop_ghost (fun k a1 w1=>∃m rb φ1,I m/\μ m=k/\RF rb φ1 (F m) a1/\Rel rb φ1 (G m) w1/\Stp Pr φ w rb φ1 w1/\DR rb φ1 (D m) a1.defers) (μ a0) ⟨a0,Pr,φ,hI,rfl,Db,tf,Stp.refl _ _ _,by rw[<-io];exact hd⟩ ?_
  rintro k a1 w1 ⟨m,rb,φ1,Dh,rfl,hf,hr,hs,kc⟩
  refine wp_mono (zDq hm body _ rb φ1 (F m) a1 (G m) (D m) w1 hf hr (zJ hs hne) kc (hb m Dh)) fun e a2 w2 hp=>?_
  obtain⟨ia,S',yc,jc,φ2,h1,h2,h3,h4,h5⟩:=hp
  cases e with
  |normal=>
   obtain⟨m',Ae,hlt,Eh,ag,jo⟩:=h1
   have pb:=hs.trans h4
   have nc:φ2≠ []:=zJ pb hne
   obtain⟨l2,φr,rfl⟩:=List.exists_cons_of_ne_nil nc
   obtain⟨l0,φ0,rfl⟩:=List.exists_cons_of_ne_nil hne
   have uf:S'≠ []:=fun h0=>by have:=h3.shape;rw[h0]at this;simp at this
   obtain⟨L',SR,rfl⟩:=List.exists_cons_of_ne_nil uf
   have Ve:l0.length<=n m':=Nat.le_trans (Nat.le_of_eq hn2) (hn m' Ae)
   have Be:RF jc (l2.take (n m')::φr) (AV.cuts (n m') ia) a2:=⟨by rw[zB8];exact h2.len,fun t c x hc hx=>by
    rw[zBi]at hc
    obtain⟨c0,h0,rfl⟩:=Option.map_eq_some_iff.1 hc
    exact(h2.at_ t c0 x h0 hx).cut⟩
   exact⟨μ m',hlt,m',jc,l2.take (n m')::φr,Ae,rfl,Be.wk (zEB Eh),zEA (zDi h3 (n m')) (zEC ag),zEf pb Ve,by rw[<-jo];exact h5.cut⟩
  |_=>exact⟨ia,S',yc,jc,φ2,h1,h2,h3,hs.trans h4,h5⟩
 | .scope _,Q,Pr,φ,fr,a,S,ds,w,h,hR,hne,hd,hk=>hk.elim
 | .rangeFunc _ _ _ _,Q,Pr,φ,fr,a,S,ds,w,h,hR,hne,hd,hk=>hk.elim
 | .goto _,Q,Pr,φ,fr,a,S,ds,w,h,hR,hne,hd,hk=>hk.elim
 | .refuse _,Q,Pr,φ,fr,a,S,ds,w,h,hR,hne,hd,hk=>hk.elim
def zQP:Exit->Option FrameMode
 | .normal=>some .returning
 | .ret=>some .returning
 | .panic l=>some (.panicking l)
 |_=>none
def zYe(P:Program)(rs:List ResultVar)(r:AV)(S':ASt):Exit->List AV->ASt->List AV->Prop:=fun e fr S1 ds=>
 ∃u,zQP e=some u/\∃S2 vs,zJZ P ds u S1 S2/\resA P fr S2 rs=some vs/\(retA vs).down 1=some r/\S2.tail=S'
theorem ADet.introRv{K:FuncId}{args:List AV}{r:AV}{S S':ASt}{fn:Func}{c:Code}(hm:P.follows .mixedOrders=true)(hK:∀xs w,(callFunc K xs).run P w= .ok (.enter K xs) w)(hf:P.funcs[K]? =some fn)(hb:fn.body=some c)
  (h:zDp P c (AV.ups 1 args++List.replicate (fn.ntmps-args.length) .un) ([]::S) [] (zYe P fn.results.toList r S')):ADet P K args S r S':=by
 refine⟨hK,fun Pr φ xs w ea hR hne=>?_⟩
 refine calls_of_wp_defers hf hb ?_;refine wp_mono (zDq hm c _ Pr ([]::φ) _ _ ([]::S) [] w (zDm ea) (zCa hR) (by simp) trivial h) fun e a' w' hp=>?_
 obtain⟨ia,S1,ds,Pr',φ',⟨u,he,S2,vs,ua,Tb,hr,h3⟩,h4,h5,h6,h7⟩:=hp
 have key:Leaves P fn a'.tmps (fun e w'=>∃x Pr' φ',e= .returned x/\Stp Pr φ w Pr' φ' w'/\Rel Pr' φ' S' w'/\RA Pr' φ' r x) a'.defers u w':=by
  refine zGf (P:=P) (Pr0:=Pr) (φ0:=[]::φ) (w0:=w) (S':=S2) Tb (fun jc φ2 w2 x s2 r2 hx=>?_) ds a'.defers u Pr' φ' S1 w' h7 h4 h5 (zJ h6 (by simp)) h6 ua
  have Wb:φ2≠ []:=zJ s2 (by simp)
  obtain⟨l',φ1,rfl⟩:=List.exists_cons_of_ne_nil Wb
  have lc:S2≠ []:=fun h0=>by have:=r2.shape;rw[h0]at this;simp at this
  obtain⟨L',S3,rfl⟩:=List.exists_cons_of_ne_nil lc
  simp only[List.tail_cons]at h3;subst h3;exact⟨x,jc,φ1,rfl,zCw s2,zB1 r2,hx.down r hr⟩
 cases e with
 |normal=>cases he;exact key
 |ret=>cases he;exact key
 |panic l=>cases he;exact key
 |exit _=>cases he
 |goto _=>cases he
 |outgrown=>cases he
end
section
variable{P:Program}{fr:List AV}{S:ASt}{ds:List AV}{Q:Exit->List AV->ASt->List AV->Prop}
def zQQ(P:Program)(b:Code)(Q:Exit->List AV->ASt->List AV->Prop)(e:Exit)(fr:List AV)(S:ASt)(ds:List AV):Prop:=match e with| .normal=>zDp P b fr S ds Q|e=>Q e fr S ds
theorem zKj(b:Code):zQQ P b Q .normal fr S ds=zDp P b fr S ds Q:=rfl
theorem zOM(b:Code)(j:Nat):zQQ P b Q (.exit j) fr S ds=Q (.exit j) fr S ds:=rfl
theorem zQR(b:Code):zQQ P b Q .ret fr S ds=Q .ret fr S ds:=rfl
theorem zKk(id:Nat)(ops:Array Oper)(cb:Bool):zDp P (.region id ops cb) fr S ds Q=if(ops.toList.any zFE&& !cb)=true then zAl P ops ops.toList fr S ds (Q .normal)else zBH P (.region id ops cb) fr S (zQH ds Q):=by rw[zDp]<;>rfl
theorem zQS(a b:Code):zDp P (.seq a b) fr S ds Q=zDp P a fr S ds (zQQ P b Q):=by rw[zDp]<;>congr 1
theorem zQT:zDp P .ret fr S ds Q=Q .ret fr S ds:=by rw[zDp]
theorem zLy(b:Code)(l:List PanicEntry):zQQ P b Q (.panic l) fr S ds=Q (.panic l) fr S ds:=rfl
theorem zLz(i:Nat)(l:List PanicEntry):zQG i Q (.panic l) fr S ds=Q (.panic l) fr S ds:=rfl
theorem zTg{rs:List ResultVar}{r:AV}{S':ASt}(e:Exit):zYe P rs r S' e fr S ds=∃u,zQP e=some u/\∃S2 vs,zJZ P ds u S S2/\resA P fr S2 rs=some vs/\(retA vs).down 1=some r/\S2.tail=S':=rfl
theorem zQU{u:FrameMode}{S':ASt}:zJZ P [] u S S'=(u= .returning/\S=S'):=by rw[zJZ]
theorem zON{u:FrameMode}{S':ASt}(K:FuncId)(la lb vs:List AV):zJZ P (.fn (.func K) la lb::vs) u S S'=(u≠ .run/\∃u' S1,zKi P K (la++lb) S u u' S1/\zJZ P vs (settle u') S1 S'):=by rw[zJZ]
end
end Go.Proofs.YtgpajpilkapciaaGreatDoor
