/- A part of the proof. -/
import Derived.Test.YtgpajpilkapciaaGreatDoorXNVj
import Derived.Test.YtgpajpilkapciaaGreatDoorXNVm
set_option linter.unusedVariables false
set_option linter.unusedSimpArgs false
set_option maxRecDepth 100000
set_option maxHeartbeats 32000000
namespace Go.Proofs.YtgpajpilkapciaaGreatDoor
open Go.RowKit _root_.Go.Proofs.Tryz
def SWP(P:Program)(c:Code)(fr:List AV)(S:ASt)(Q:Exit->List AV->ASt->Prop):Prop:=∀Pr φ a w,RF Pr φ fr a->Rel Pr φ S w->φ≠ []->c.wp P (Post Pr φ a w Q) a w
def SeqS(P:Program)(b:Code)(Q:Exit->List AV->ASt->Prop)(e:Exit)(fr:List AV)(S:ASt):Prop:=match e with| .normal=>SWP P b fr S Q|e=>Q e fr S
section
variable{P:Program}{fr:List AV}{S:ASt}{Q:Exit->List AV->ASt->Prop}
theorem zCY(b:Code):SeqS P b Q .normal fr S=SWP P b fr S Q:=rfl
theorem SWP.of_awp{c:Code}(hm:P.follows .mixedOrders=true)(h:awp P c fr S Q):SWP P c fr S Q:=fun Pr φ a w h1 h2 h3=>zCx hm c Q Pr φ fr a S w h1 h2 h3 h
theorem SWP.seq{x y:Code}(h:SWP P x fr S (SeqS P y Q)):SWP P (.seq x y) fr S Q:=fun Pr φ a w h1 h2 h3=>by
 refine wp_seq (wp_mono (h Pr φ a w h1 h2 h3) fun e a' w' hp=>?_)
 obtain⟨ia,S',Pr',φ',k1,k2,k3,k4,k5⟩:=hp
 cases e with
 |normal=>exact wp_mono ((show SWP P y ia S' Q from k1) Pr' φ' a' w' k2 k3 (zJ k4 h3)) fun e Mg Ng hp=>Post.trans k4 k5 e Mg Ng hp
 |_=>exact⟨ia,S',Pr',φ',k1,k2,k3,k4,k5⟩
theorem SWP.block{id:Nat}{x:Code}(h:SWP P x fr S (BlkQ id Q)):SWP P (.block id x) fr S Q:=fun Pr φ a w h1 h2 h3=>by
 refine wp_block (wp_mono (h Pr φ a w h1 h2 h3) fun e a' w' hp=>?_)
 obtain⟨ia,S',Pr',φ',k1,k2,k3,k4,k5⟩:=hp
 cases e with
 |exit j=>
  simp only[BlkQ]at k1;simp only[Exit.inBlock];split
  .rename_i hj
   rw[if_pos hj]at k1;exact⟨ia,S',Pr',φ',k1,k2,k3,k4,k5⟩
  rename_i hj
  rw[if_neg hj]at k1
  exact⟨ia,S',Pr',φ',k1,k2,k3,k4,k5⟩
 |_=>exact⟨ia,S',Pr',φ',k1,k2,k3,k4,k5⟩
end
theorem zXf{Pr:Prot}{φ:Fi2}{S:ASt}{w:World}(h:Rel Pr φ S w){i k n:Nat}{E:TypeId}{cs:List AV}(ho:get2 S 0 i=some (.row E k n cs)){rows:List (List PV)}(hn:rows.length=n)(h0:0<n)
  (hk:∀(r:Nat) (row:List PV),rows[r]? =some row->row.length=k) (hc:∀(r:Nat) (row:List PV) (j:Nat) (p:PV),rows[r]? =some row->row[j]? =some p->cs[r*k+j]? =some (.p p)):
  ∃Pr',Stp Pr φ w Pr' φ w/\Rel Pr' φ (set2 S 0 i .dead) w/\∀x,RA Pr φ (.rsl 0 i n k) x->RP Pr' (.sl k rows) x:=by
 obtain⟨e,he,Oa,Ad,Hg,Wc,Ab,Ea⟩:=h.obj 0 i _ ho
 rcases Ea with⟨hz,_⟩|⟨g,xs,hg,ma,Xa,hn0,Om,mr,Ie,Za⟩
 .omega
 have ta:Pr.le (fun b o=>if b=g then xs[o]? else Pr b o):=fun b o v hv=>by
  by_cases hb:b=g
  .subst hb;rw[Za]at hv;cases hv
  simp only[hb,if_false];exact hv
 have qk:∀b,b≠g->∀o,Pr b o=none->(fun b o=>if b=g then xs[o]? else Pr b o) b o=none:=fun b hb o hv=>by simp only[hb,if_false];exact hv
 refine⟨fun b o=>if b=g then xs[o]? else Pr b o,⟨ta,Fle.refl φ,fun d i e g h k=>.inl ⟨d,i,e,h,k⟩,⟨rfl,rfl,rfl,Nat.le_refl _,fun _ _ _=>rfl⟩,rfl,fun b o h0 h1=>?_⟩,⟨fun d j o hj=>?_,h.dis,h.lt,fun b o v hv=>?_,?_,?_⟩,fun x hx=>?_⟩
 .by_cases hb:b=g
  .subst hb;exact .inl ⟨0,i,e,he,hg⟩
  simp only[hb,if_false]at h1;exact absurd h0 h1
 .rw[zF _ ho]at hj
  split at hj
  .rename_i hc
   obtain⟨rfl,rfl⟩:=hc
   cases hj;exact⟨e,he,trivial⟩
  rename_i hne
  obtain⟨e',k1,k2⟩:=h.obj d j o hj
  refine⟨e',k1,k2.keep ta (Fle.refl _) fun g' Cb=>⟨rfl,fun o' wa=>qk g' (fun Ge=>hne ?_) o' wa⟩⟩
  subst Ge;exact h.dis d j e' 0 i e g' k1 he Cb hg
 .by_cases hb:b=g
  .subst hb
   simp only[if_true]at hv;rw[zBS ma];exact hv
  simp only[hb,if_false]at hv
  exact h.pr b o v hv
 .exact h.tb.of ta (fun _ _ _=>rfl) fun d i e g a b=>.inl ⟨d,i,e,a,b⟩
 .rw[zAH];exact h.shape
 subst Hg
 generalize Sf:e.k=kk at hx
 cases hx with
 |rnil=>omega
 |rsl h1 h2 h3 h4 h5 h6 h7=>
  rw[he]at h1;cases h1
  obtain⟨Ge,Zc⟩:=h5 Ad.symm
  rw[hg]at Ge;cases Ge;subst Zc
  have hlt:∀(r:Nat) (row:List PV) (j:Nat) (p:PV),rows[r]? =some row->row[j]? =some p->r*e.k+j<xs.size:=fun r row j p a b=>by
   have:=(List.getElem?_eq_some_iff.1 (hc r row j p a b)).1
   have h8:n*e.k<=e.cap*e.k:=Nat.mul_le_mul_right _ Om
   omega
  rw[<-hn];refine .sl (fun r j=>xs.getD (r*e.k+j) undef) (by omega) h7 hk (fun r row j p a b=>?_) fun r row j p a b=>?_
  .have:=hlt r row j p a b
   simp[Array.getD,this]
  have hl:=hlt r row j p a b
  have h2:=Ie _ _ xs[r*e.k+j] (hc r row j p a b) (Array.getElem?_eq_getElem hl)
  cases h2 with
  |p h2=>
   have:=h2.mono ta
   simpa [Array.getD,hl]using this
theorem ADet.introS{P:Program}{K:FuncId}{args:List AV}{S S':ASt}{r:AV}{fn:Func}{c:Code}(hK:∀xs w,(callFunc K xs).run P w= .ok (.enter K xs) w)(hf:P.funcs[K]? =some fn)(hb:fn.body=some c)
  (h:SWP P c (AV.ups 1 args++List.replicate (fn.ntmps-args.length) .un) ([]::S) (zLn P fn.results.toList r S')):ADet P K args S r S':=by
 refine⟨hK,fun Pr φ xs w ea hR hne=>?_⟩
 refine calls_of_wp hf hb ?_
 have eb:RF Pr ([]::φ) (AV.ups 1 args++List.replicate (fn.ntmps-args.length) .un) {tmps:=xs++Array.replicate (fn.ntmps-xs.size) undef,defers:=[]}:=by
  refine⟨by simp[zAW,ea.1],fun t v x hv hx=>?_⟩
  rcases Nat.lt_or_ge t args.length with ht|ht
  .rw[List.getElem?_append_left (by rw[zAW];exact ht),zB0]at hv
   obtain⟨v0,h0,rfl⟩:=Option.map_eq_some_iff.1 hv
   simp only at hx;rw[Array.getElem?_append_left (by rw[<-ea.1];exact ht)]at hx
   exact RA.up (k:=1) (ea.2 t v0 x h0 hx)
  rw[List.getElem?_append_right (by rw[zAW];exact ht)]at hv
  simp only at hx;rw[Array.getElem?_append_right (by rw[<-ea.1];exact ht)]at hx
  rw[List.getElem?_replicate]at hv;rw[Array.getElem?_replicate]at hx;split at hv
  .split at hx
   .cases hv;cases hx;exact .un
   cases hx
  cases hv
 refine wp_mono (h Pr ([]::φ) _ w eb (zCa hR) (by simp)) fun e a' w' hp=>?_
 obtain⟨ia,S1,Pr',φ',⟨he,vs,h1,h2,h3⟩,h4,h5,h6,h7⟩:=hp
 obtain⟨x,hx,ua⟩:=zCE (P:=P) (fn:=fn) h4 h5 h1
 have Wb:φ'≠ []:=zJ h6 (by simp)
 obtain⟨l',φ1,rfl⟩:=List.exists_cons_of_ne_nil Wb
 have lc:S1≠ []:=fun h0=>by have:=h5.shape;rw[h0]at this;simp at this
 obtain⟨L',S2,rfl⟩:=List.exists_cons_of_ne_nil lc
 simp only[List.tail_cons]at h3;subst h3
 have key:a'.defers=[]/\∃v,(results fn a'.tmps).run P w'= .ok v w'/\∃x Pr' φ',Ending.returned v= .returned x/\Stp Pr φ w Pr' φ' w'/\Rel Pr' φ' S2 w'/\RA Pr' φ' r x:=
  ⟨h7,x,ua,x,Pr',φ1,rfl,zCw h6,zB1 h5,hx.down r h2⟩
 rcases he with rfl|rfl
 .exact key
 exact key
end Go.Proofs.YtgpajpilkapciaaGreatDoor
namespace Go.Proofs.YtgpajpilkapciaaGreatDoor
open Go.RowKit _root_.Go.Proofs.Tryz
abbrev Cr:=Ty × Int
structure CrR where
 vars:List Fi
 out:List Cr
 left:List (List Fi × List St)
 sub:List (List Cr)
def crZ:CrR:=⟨[],[],[],[]⟩
def CrR.all(r:CrR):List Cr:=r.out++r.sub.flatten
def CrR.cat(a b:CrR):CrR:=⟨[],a.out++b.out,a.left++b.left,a.sub++b.sub⟩
def CrR.bare(a:CrR):CrR:=⟨[],a.out,a.left,a.sub⟩
def exTy(p:List It)(env:List Fi)(e:Ex):Ty:=(zOm p env e).getD zTy
def zCG(p:List It)(env:List Fi):List Ex->List Ty
 | []=>[]
 |e::l=>exTy p env e::zCG p env l
def zCB(p:List It)(env:List Fi):List Ex->List Cr
 | []=>[]
 |e::l=>(exTy p env e,e.pos)::zCB p env l
def armG(fs:List Fi)(v n:BA):List Fi:=(fs.filter fun f=>sEq f.name v&& !sEq n emS).map fun f=>⟨n,f.type⟩
def zD3(Yb:List Fi)(body:List St)(out:List Cr)(r:CrR):CrR:=⟨[],out,[(Yb,body)],[r.all]⟩
mutual
def crS(p:List It):List Fi->St->CrR
 |env,.mk op nm sd nms ty _ pl es body els arms _=>
  if op=1 then⟨[⟨nm,(zCG p env es).headD zTy⟩],[],[],[]⟩
  else if op=2 then⟨zBc ((zW p nm).getD []) nms,[],[],[]⟩
  else if op=12 then⟨[⟨sd,inTy 12 ty⟩,⟨nm,inTy 11 ty⟩],[],[],[]⟩
  else if op=11 then(crSs p (env++[⟨nm,.mk 14 emS (plT p env pl).args⟩]) body).bare
  else if op=8 then crAs p ((zW p sd).getD []) env arms
  else if op=10 then zD3 (zAg nms (zCG p env es)) body (zCB p env es) (crSs p (zAg nms (zCG p env es)) body)
  else(crSs p env body).cat (crSs p env els)
def crSs(p:List It):List Fi->List St->CrR
 |_,[]=>crZ
 |env,s::l=>(crS p env s).cat (crSs p (env++(crS p env s).vars) l)
def crAs(p:List It)(fs:List Fi):List Fi->List (ArOf St)->CrR
 |_,[]=>crZ
 |env,⟨v,n,b⟩::l=>(crSs p (env++armG fs v n) b).cat (crAs p fs env l)
end
def crI(p:List It)(x:It):List Cr:=if x.kind=3 then(crSs p x.fields x.body).all else []
def zD4(p:List It):Bool:=decide (zBa p=[]/\zIt p 300=some []/\tgC p=[])
def zCZ(p:List It):List Cr:=if zD4 p=true then p.flatMap (crI p)else []
theorem zE9(p:List It)(env:List Fi)(s:St):crS p env s=
  (if s.op=1 then⟨[⟨s.name,(zCG p env s.u5).headD zTy⟩],[],[],[]⟩
  else if s.op=2 then⟨zBc ((zW p s.name).getD []) s.names,[],[],[]⟩
  else if s.op=12 then⟨[⟨s.u4,inTy 12 s.type⟩,⟨s.name,inTy 11 s.type⟩],[],[],[]⟩
  else if s.op=11 then(crSs p (env++[⟨s.name,.mk 14 emS (plT p env s.place).args⟩]) s.body).bare
  else if s.op=8 then crAs p ((zW p s.u4).getD []) env s.arms
  else if s.op=10 then zD3 (zAg s.names (zCG p env s.u5)) s.body (zCB p env s.u5) (crSs p (zAg s.names (zCG p env s.u5)) s.body)
  else(crSs p env s.body).cat (crSs p env s.els)):=by
 cases s;rw[crS];rfl
theorem zF6(p:List It)(env:List Fi):∀l:List Ex,(zCB p env l).length=l.length
 | []=>rfl
 |e::l=>by rw[zCB,List.length_cons,zF6 p env l,List.length_cons]
theorem zDg(p:List It)(env:List Fi):∀l:List Ex,(zCG p env l).length=l.length
 | []=>rfl
 |e::l=>by rw[zCG,List.length_cons,zDg p env l,List.length_cons]
theorem zHF(a b:CrR):(a.cat b).all.length=a.all.length+b.all.length:=by
 unfold CrR.cat CrR.all;simp only[List.length_append,List.flatten_append];omega
theorem zUi(a:CrR):a.bare.all=a.all:=rfl
theorem zLU(e:List Fi)(b:List St)(o:List Cr)(r:CrR):(zD3 e b o r).all.length=o.length+r.all.length:=by
 unfold zD3;simp[CrR.all]
mutual
def spnS:Nat->St->Nat
 |d,.mk op _ _ _ _ _ _ es body els arms _=>(if op=10 then es.length else 0)+(spnL (d-1) body+(spnL (d-1) els+spnA (d-1) arms))
def spnL:Nat->List St->Nat
 |_,[]=>0
 |d,s::l=>if d=0 then 0 else spnS d s+spnL d l
def spnA:Nat->List (ArOf St)->Nat
 |_,[]=>0
 |d,⟨_,_,b⟩::l=>spnL d b+spnA d l
end
theorem zMb(d:Nat)(s:St):spnS d s=(if s.op=10 then s.u5.length else 0)+(spnL (d-1) s.body+(spnL (d-1) s.els+spnA (d-1) s.arms)):=by
 cases s;rw[spnS];rfl
theorem zF7(d:Nat):spnL d []=0:=by rw[spnL]
theorem zF8(d:Nat):spnA d []=0:=by rw[spnA]
theorem zEb(d:Nat)(a:Ar)(l:List Ar):spnA d (a::l)=spnL d a.body+spnA d l:=by cases a;rw[spnA]
theorem zDA(p:List It)(fs env:List Fi)(a:Ar)(l:List Ar):crAs p fs env (a::l)=(crSs p (env++armG fs a.variant a.name) a.body).cat (crAs p fs env l):=by cases a;rw[crAs]
theorem zF9{p:List It}(d:Nat)(hd:d≠0):∀(l:List St),(∀s∈l,∀env,(crS p env s).all.length=spnS d s)->∀env,(crSs p env l).all.length=spnL d l
 | [],_,env=>by rw[crSs,spnL];rfl
 |s::l,h,env=>by
  rw[crSs,spnL,if_neg hd,zHF,h s (List.mem_cons_self ..),zF9 d hd l (fun t ht=>h t (List.mem_cons_of_mem _ ht))]
theorem zNr{p:List It}{fs:List Fi}(d:Nat)(hd:d≠0):∀(l:List Ar),(∀a∈l,∀s∈a.body,∀env,(crS p env s).all.length=spnS d s)->∀env,(crAs p fs env l).all.length=spnA d l
 | [],_,env=>by rw[crAs,spnA];rfl
 |a::l,h,env=>by
  rw[zDA,zEb,zHF,zF9 d hd a.body (h a (List.mem_cons_self ..)),zNr d hd l (fun t ht=>h t (List.mem_cons_of_mem _ ht))]
theorem zZg(p:List It):∀(s:St) (d:Int) (n:Nat),s.whole d=true->d+1<=n->∀env,(crS p env s).all.length=spnS n s:=by
 intro s
 induction s using St.ind with
 |h s i1 i2 i3=>
 intro d n hw hn env;rw[zB]at hw;simp only[Bool.and_eq_true,Bool.or_eq_true,decide_eq_true_eq]at hw
 obtain⟨hd,hh,hb,he,ha,hx,ym,ap,bp⟩:=hw
 have na:1<=s.op/\s.op<=13:=by
  unfold zM at hh;simp only[Bool.and_eq_true]at hh
  have:=hh.1
  unfold fmOk at this
  simpa using this
 have hn0:n-1≠0:=by omega
 have hB:=zF9 (p:=p) (n-1) hn0 s.body fun t ht env=>i1 t ht (d-1) (n-1) (List.all_eq_true.1 ym t ht) (by omega) env
 have hE:=zF9 (p:=p) (n-1) hn0 s.els fun t ht env=>i2 t ht (d-1) (n-1) (List.all_eq_true.1 ap t ht) (by omega) env
 have hA:=fun fs=>zNr (p:=p) (fs:=fs) (n-1) hn0 s.arms fun a nr t ht env=>i3 a nr t ht (d-1) (n-1) (by
  have:=(zLE bp).2 a nr
  unfold Ar.whole at this;simp only[Bool.and_eq_true]at this;exact List.all_eq_true.1 this.2.2 t ht) (by omega) env
 have eB:zAm s.op=false->s.body=[]:=fun h=>by
  rw[h]at hb;simpa using hb
 have eE:zAf s.op=false->s.els=[]:=fun h=>by
  rw[h]at he;simpa using he
 have eA:zAS s.op=false->s.arms=[]:=fun h=>by
  rw[h]at ha;simpa using ha
 rw[zMb,zE9]
 have nA:zAS s.op=false->spnA (n-1) s.arms=0:=fun h=>by rw[eA h,zF8]
 have nB:zAm s.op=false->spnL (n-1) s.body=0:=fun h=>by rw[eB h,zF7]
 have nE:zAf s.op=false->spnL (n-1) s.els=0:=fun h=>by rw[eE h,zF7]
 clear hb he ha hh hx
 generalize s.op=op at*
 by_cases h1:op=1
 .subst h1;rw[if_pos rfl,if_neg (by decide),nA rfl,nB rfl,nE rfl];rfl
 by_cases h2:op=2
 .subst h2;rw[if_neg (by decide),if_pos rfl,if_neg (by decide),nA rfl,nB rfl,nE rfl];rfl
 by_cases uc:op=12
 .subst uc;rw[if_neg (by decide),if_neg (by decide),if_pos rfl,if_neg (by decide),nA rfl,nB rfl,nE rfl];rfl
 by_cases oe:op=11
 .subst oe;rw[if_neg (by decide),if_neg (by decide),if_neg (by decide),if_pos rfl,if_neg (by decide),nA rfl,nE rfl,zUi,hB];omega
 by_cases h8:op=8
 .subst h8;rw[if_neg (by decide),if_neg (by decide),if_neg (by decide),if_neg (by decide),if_pos rfl,if_neg (by decide),nB rfl,nE rfl,hA];omega
 by_cases h10:op=10
 .subst h10;rw[if_neg (by decide),if_neg (by decide),if_neg (by decide),if_neg (by decide),if_neg (by decide),if_pos rfl,if_pos rfl,nA rfl,nE rfl,zLU,zF6,hB]
  omega
 rw[if_neg h1,if_neg h2,if_neg uc,if_neg oe,if_neg h8,if_neg h10,if_neg h10,zHF,hB,hE]
 have:zAS op=false:=by unfold zAS;simpa using h8
 rw[nA this];omega
theorem zUj{p:List It}(hw:zx p=true){x:It}(hx:x∈p):(crI p x).length=spnL 200 x.body:=by
 have h:=(zLE hw).2 x hx
 unfold It.whole at h;unfold crI
 by_cases h3:x.kind=3
 .rw[if_neg (by omega),if_pos h3]at h
  simp only[Bool.and_eq_true]at h;rw[if_pos h3];exact zF9 200 (by decide) x.body (fun s hs env=>zZg p s 38 200 (List.all_eq_true.1 h.2.2.2.2.2 s hs) (by decide) env) x.fields
 rw[if_neg h3]
 by_cases uc:x.kind=1\/x.kind=2
 .rw[if_pos uc]at h
  simp only[Bool.and_eq_true,decide_eq_true_eq]at h
  have:x.body=[]:=by simpa using h.1.2.1
  rw[this,zF7];rfl
 rw[if_neg uc,if_neg h3]at h;simp at h
theorem zLV(p:List It):(zCZ p).length=(p.map fun x=>spnL 200 x.body).sum\/(zCZ p).length=0:=by
 unfold zCZ
 by_cases h:zD4 p=true
 .rw[if_pos h]
  left
  unfold zD4 at h
  have hw:=zCj (of_decide_eq_true h).1
  rw[List.length_flatMap]
  congr 1
  exact List.map_congr_left fun x hx=>zUj hw hx
 rw[if_neg h];right;rfl
def zDh(p:List It)(l:List Cr):List Flt:=l.filterMap fun c=>if sA p c.1 false=true then none else some (150,c.2)
def zD5(p:List It):List Flt:=zDh p (zCZ p)
abbrev eI(n:Int):Ex:=.mk 1 n emS emS ⟨emS,[]⟩ [] 0
abbrev zStT:Ty:=.mk 0 emS []
def acX(made:Int):St:=.mk 1 (⟨#[120]⟩:BA) emS [] zStT 0 ⟨emS,[]⟩ [.mk made 0 emS emS ⟨emS,[]⟩ [eI 1] 0] [] [] [] 0
def acS(ef:Int):Nat->St
 |0=>.mk 10 emS emS [(⟨#[121]⟩:BA)] zStT 0 ⟨emS,[]⟩ [.mk ef 0 emS emS ⟨(⟨#[120]⟩:BA),[]⟩ [] 5] [] [] [] 0
 |d+1=>.mk 13 emS emS [] zStT 0 ⟨emS,[]⟩ [] [acS ef d] [] [] 0
def acP(made ef:Int)(d:Nat):List It:=[⟨3,(⟨#[109,97,105,110]⟩:BA),[],.mk 1 emS [],[acX made,.mk 9 emS emS [] zStT 0 ⟨emS,[]⟩ [] [acS ef d] [] [] 0],eI 0,0⟩]
def zUk(p:List It):Bool:=decide ((zD5 p).length=0)&&decide ((zCZ p).length=1)
def zUl(a b:Int):Bool:=if b=5 then decide (a≠26/\a≠23)else decide (a≠26)
theorem zUm:zD5 (acP 26 4 0)=[(150,5)]:=by kernel_rfl
def zUn:List Int:=[21,23,26,27,29,31]
def zUo:List Int:=[4,5,6]
def zRi:Bool:=zUn.all fun a=>zUo.all fun b=>(List.range 21).all fun d=>(zUk (acP a b d)==zUl a b)&& !great (acP a b d)
theorem zO9:zRi=true:=by kernel_rfl
theorem zRj{α β:Type}(g:α->Option β)(l:List α)(i:Nat)(h:i<l.length):(l.take (i+1)).filterMap g=(l.take i).filterMap g++(g l[i]).toList:=by
 rw[List.take_succ_eq_append_getElem h,List.filterMap_append];cases hg:g l[i]<;>simp[hg]
theorem zZh{α β:Type}(g:α->Option β)(l:List α)(i:Nat)(h:i<l.length){y:β}(hy:g l[i]=some y):(l.filterMap g)[((l.take i).filterMap g).length]? =some y:=by
 have e:l=l.take (i+1)++l.drop (i+1):=(List.take_append_drop _ _).symm
 have e2:l.filterMap g=(l.take i).filterMap g++([y]++(l.drop (i+1)).filterMap g):=by
  conv=>lhs;rw[e]
  rw[List.filterMap_append,zRj g l i h,hy,List.append_assoc];rfl
 rw[e2,List.getElem?_append_right (Nat.le_refl _),Nat.sub_self];rfl
theorem zVT{α β:Type}(g:α->Option β)(l:List α)(i:Nat):((l.take i).filterMap g).length<=i:=by
 have h1:=List.length_filterMap_le g (l.take i)
 rw[List.length_take]at h1;omega
section
variable{p:List It}(hp:PrSm p)
include hp
theorem zRk{env:List Fi}(he:zh env){e:Ex}(Fc:ExSm e):TySm (exTy p env e):=by
 unfold exTy zOm;split
 .cases h:tyE p env e with
  |ok t=>exact zVP hp he e Fc t h
  |error f=>exact sm_z
 exact sm_z
theorem zHG{env:List Fi}(he:zh env):∀l:List Ex,(∀e∈l,ExSm e)->∀u∈zCG p env l,TySm u
 | [],_,u,hu=>by simp[zCG]at hu
 |e::l,h,u,hu=>by
  rw[zCG,List.mem_cons]at hu
  rcases hu with rfl|hu
  .exact zRk hp he (h e (List.mem_cons_self ..))
  exact zHG he l (fun y hy=>h y (List.mem_cons_of_mem _ hy)) u hu
theorem zNs{env:List Fi}(he:zh env):∀l:List Ex,(∀e∈l,ExSm e)->∀c∈zCB p env l,TySm c.1
 | [],_,u,hu=>by simp[zCB]at hu
 |e::l,h,u,hu=>by
  rw[zCB,List.mem_cons]at hu
  rcases hu with rfl|hu
  .exact zRk hp he (h e (List.mem_cons_self ..))
  exact zNs he l (fun y hy=>h y (List.mem_cons_of_mem _ hy)) u hu
omit hp in
theorem zNt(fs:List Fi)(v n:BA):(armG fs v n).length<=fs.length:=by
 unfold armG;rw[List.length_map];exact List.length_filter_le _ _
omit hp in
theorem zMc{fs:List Fi}(h:zHn fs)(v n:BA):zh (armG fs v n):=fun f hf=>by
 unfold armG at hf
 obtain⟨g,hg,rfl⟩:=List.mem_map.1 hf
 exact(h.2 g (List.mem_filter.1 hg).1).2
theorem zKB{env:List Fi}(he:zh env)(x:Pl):TySm (.mk 14 emS (plT p env x).args):=by
 have h:=zRH hp he x
 obtain⟨_,h1,h2,h3⟩:=h
 exact .mk _ zI1 h2 h3
end
theorem zEc:∀l:List Ex,l.length<=(l.map Ex.nd).sum
 | []=>Nat.zero_le _
 |e::l=>by
  have h1:=zEc l
  have h2:1<=e.nd:=by cases e;rw[Ex.nd];omega
  rw[List.length_cons,List.map_cons,List.sum_cons];omega
structure CrN (n:Nat) (r:CrR):Prop where
 vars:r.vars.length<=n
 sm:zh r.vars
 all:r.all.length<=n
 left:r.left.length<=n
 same:r.left.length=r.sub.length
 outS:∀c∈r.all,TySm c.1
theorem CrN.z(n:Nat):CrN n crZ:=⟨Nat.zero_le _,nofun,Nat.zero_le _,Nat.zero_le _,rfl,nofun⟩
theorem CrN.vs{n:Nat}{v:List Fi}(h:v.length<=n)(hs:zh v):CrN n ⟨v,[],[],[]⟩:=⟨h,hs,Nat.zero_le _,Nat.zero_le _,rfl,nofun⟩
theorem CrN.bare{n:Nat}{r:CrR}(h:CrN n r):CrN n r.bare:=⟨Nat.zero_le _,nofun,h.all,h.left,h.same,h.outS⟩
theorem CrN.up{n m:Nat}{r:CrR}(h:CrN n r)(hm:n<=m):CrN m r:=⟨Nat.le_trans h.vars hm,h.sm,Nat.le_trans h.all hm,Nat.le_trans h.left hm,h.same,h.outS⟩
theorem zUp{a b:CrR}{c:Cr}(h:c∈(a.cat b).all):c∈a.all\/c∈b.all:=by
 unfold CrR.cat CrR.all at*;simp only[List.flatten_append,List.mem_append]at h ⊢
 rcases h with(h|h)|h|h
 .exact .inl (.inl h)
 .exact .inr (.inl h)
 .exact .inl (.inr h)
 exact .inr (.inr h)
theorem CrN.cat{n m:Nat}{a b:CrR}(ha:CrN n a)(hb:CrN m b):CrN (n+m) (a.cat b):=by
 refine⟨Nat.zero_le _,nofun,?_,?_,?_,fun c hc=>?_⟩
 .have h1:=ha.all
  have h2:=hb.all
  rw[zHF];omega
 .have h1:=ha.left
  have h2:=hb.left
  show(a.left++b.left).length<=_
  rw[List.length_append];omega
 .show(a.left++b.left).length=(a.sub++b.sub).length
  rw[List.length_append,List.length_append,ha.same,hb.same]
 rcases zUp hc with h|h
 .exact ha.outS c h
 exact hb.outS c h
theorem CrN.spawn{n m k:Nat}{e:List Fi}{b:List St}{o:List Cr}{r:CrR}(ho:o.length<=n)(hs:∀c∈o,TySm c.1)(h:CrN m r)(hk:n+m+1<=k):CrN k (zD3 e b o r):=by
 have h1:=h.all
 refine⟨Nat.zero_le _,nofun,?_,?_,rfl,fun c hc=>?_⟩
 .rw[zLU];omega
 .show 1<=k
  omega
 have hc':c∈o++[r.all].flatten:=hc
 simp only[List.flatten_cons,List.flatten_nil,List.append_nil,List.mem_append]at hc'
 rcases hc' with h2|h2
 .exact hs c h2
 exact h.outS c h2
theorem zIE{p:List It}(hp:PrSm p):∀(l:List St),(∀s∈l,∀env,zh env->CrN s.nd (crS p env s))->∀env,zh env->CrN (l.map St.nd).sum (crSs p env l)
 | [],_,env,he=>by rw[crSs];exact CrN.z _
 |s::l,h,env,he=>by
  have h1:=h s (List.mem_cons_self ..) env he
  rw[crSs,List.map_cons,List.sum_cons];exact h1.cat (zIE hp l (fun t ht=>h t (List.mem_cons_of_mem _ ht)) _ (zA7 he h1.sm))
theorem zMd{p:List It}(hp:PrSm p){fs:List Fi}(hf:zHn fs):∀(l:List Ar),(∀a∈l,∀s∈a.body,∀env,zh env->CrN s.nd (crS p env s))->∀env,zh env->CrN (l.map Ar.nd).sum (crAs p fs env l)
 | [],_,env,he=>by rw[crAs];exact CrN.z _
 |a::l,h,env,he=>by
  rw[zDA,List.map_cons,List.sum_cons];refine CrN.cat ((zIE hp a.body (h a (List.mem_cons_self ..)) _ (zA7 he (zMc hf _ _))).up ?_) (zMd hp hf l (fun t ht=>h t (List.mem_cons_of_mem _ ht)) env he)
  rw[arNd];omega
theorem zLW{p:List It}(hp:PrSm p):∀s:St,StSm s->∀env,zh env->CrN s.nd (crS p env s):=by
 intro s
 induction s using St.ind with
 |h s i1 i2 i3=>
 intro hs env he
 have fb:=stNd s
 obtain⟨_,vc,hn2,_,Eb,_,xa,_,_,_,hb,jb,Jd,rg⟩:=hs
 have hB:=zIE hp s.body fun t ht=>i1 t ht (hb t ht)
 have hE:=zIE hp s.els fun t ht=>i2 t ht (jb t ht)
 have hA:=fun fs (hf:zHn fs)=>zMd hp hf s.arms fun a ha t ht=>i3 a ha t ht (rg a ha t ht)
 have Gg:=zDg p env s.u5
 have In:=zF6 p env s.u5
 have Bn:s.u5.length<=(s.u5.map Ex.nd).sum:=zEc s.u5
 rw[zE9];split
 .refine .vs (by simp;omega) (zC7 (zJv (zHG hp he _ xa.2)))
 split
 .refine .vs ?_ (zFO _ _ fun f hf=>((zCW hp).2 f hf).2)
  have:(zBc ((zW p s.name).getD []) s.names).length<=s.names.length:=by unfold zBc;simp;omega
  omega
 split
 .refine .vs (by simp;omega) fun f hf=>?_
  simp only[List.mem_cons,List.not_mem_nil,or_false]at hf
  rcases hf with rfl|rfl
  .exact zJu _ Eb
  exact zJu _ Eb
 split
 .exact(CrN.bare (hB _ (zA7 he (zC7 (zKB hp he _))))).up (by omega)
 split
 .exact(hA _ (zCW hp) env he).up (by omega)
 split
 .exact .spawn (Nat.le_refl _) (zNs hp he _ xa.2) (hB _ (zD0 _ _ (zHG hp he _ xa.2))) (by omega)
 exact((hB env he).cat (hE env he)).up (by omega)
theorem zIF{p:List It}(hp:PrSm p){l:List St}(hl:∀s∈l,StSm s){env:List Fi}(he:zh env):CrN (l.map St.nd).sum (crSs p env l):=zIE hp l (fun s hs env he=>zLW hp s (hl s hs) env he) env he
theorem zIG:∀(l:List St),(∀s∈l,∀d,spnS d s<=s.nd)->∀d,spnL d l<=(l.map St.nd).sum
 | [],_,d=>by rw[zF7];exact Nat.zero_le _
 |s::l,h,d=>by
  have h1:=h s (List.mem_cons_self ..) d
  have h2:=zIG l (fun t ht=>h t (List.mem_cons_of_mem _ ht)) d
  rw[spnL,List.map_cons,List.sum_cons];split<;>omega
theorem zMe:∀(l:List Ar),(∀a∈l,∀s∈a.body,∀d,spnS d s<=s.nd)->∀d,spnA d l<=(l.map Ar.nd).sum
 | [],_,d=>by rw[zF8];exact Nat.zero_le _
 |a::l,h,d=>by
  have h1:=zIG a.body (h a (List.mem_cons_self ..)) d
  have h2:=zMe l (fun t ht=>h t (List.mem_cons_of_mem _ ht)) d
  rw[zEb,List.map_cons,List.sum_cons,arNd];omega
theorem zRl:∀(s:St) (d:Nat),spnS d s<=s.nd:=by
 intro s
 induction s using St.ind with
 |h s i1 i2 i3=>
 intro d
 have h1:=zIG s.body i1 (d-1)
 have h2:=zIG s.els i2 (d-1)
 have h3:=zMe s.arms i3 (d-1)
 have hx:=zEc s.u5
 rw[zMb,stNd];split<;>omega
theorem zIH(l:List St)(d:Nat):spnL d l<=(l.map St.nd).sum:=zIG l (fun s _ d=>zRl s d) d
theorem zLX(d:Nat)(hd:d≠0):∀(l:List St) (s:St),spnL d (l++[s])=spnL d l+spnS d s
 | [],s=>by simp[spnL,hd]
 |t::l,s=>by rw[List.cons_append,spnL,spnL,if_neg hd,if_neg hd,zLX d hd l s];omega
theorem zLY(d:Nat):∀(l:List Ar) (a:Ar),spnA d (l++[a])=spnA d l+spnL d a.body
 | [],a=>by rw[List.nil_append,zEb,zF8];omega
 |b::l,a=>by rw[List.cons_append,zEb,zEb,zLY d l a];omega
theorem zZi(l:List St):spnL 0 l=0:=by cases l<;>simp[spnL]
end Go.Proofs.YtgpajpilkapciaaGreatDoor
namespace Go.Proofs.YtgpajpilkapciaaGreatDoor
open Go.RowKit _root_.Go.Proofs.Tryz
variable{S:ASt}{d:Nat}{p:List It}{q:Nat}
abbrev cU(n:Int):PV:=.v (.int .u8 n)
abbrev cI(n:Int):PV:=.v (.int .i64 n)
abbrev cS(s:BA):PV:=.v (.string s)
def crE(c:Cr):List PV:=[cU c.1.kind,cS c.1.name,.sl 3 (c.1.args.map Ty.enc),cI c.2]
def bdE(b:List Fi × List St):List PV:=[.sl 4 (b.1.map Fi.enc),.sl 15 (b.2.map St.enc)]
structure Xf where
 d:Nat
 jW:Nat
 jO:Nat
 jL:Nat
def Xf.up(c:Xf):Xf:=⟨c.d+1,c.jW,c.jO,c.jL⟩
structure Xs where
 out:List Cr
 left:List (List Fi × List St)
def Xs.add(σ:Xs)(r:CrR):Xs:=⟨σ.out++r.out,σ.left++r.left⟩
def wkX(p:List It)(c:Xf)(σ:Xs):AObj:=.cells [.p (prog p),.rsl 0 c.jO σ.out.length 4,.rsl 0 c.jL σ.left.length 2] 71
def roX(l:List Cr):AObj:=.row 51 4 l.length (rowC crE l)
def rlX(l:List (List Fi × List St)):AObj:=.row 74 2 l.length (rowC bdE l)
structure XAt (p:List It) (S:ASt) (c:Xf) (σ:Xs):Prop where
 w:get2 S c.d c.jW=some (wkX p c σ)
 o:get2 S c.d c.jO=some (roX σ.out)
 l:get2 S c.d c.jL=some (rlX σ.left)
 wo:c.jW≠c.jO
 wl:c.jW≠c.jL
 ol:c.jO≠c.jL
def updX(p:List It)(S:ASt)(c:Xf)(σ:Xs):ASt:=set2 (set2 (set2 S c.d c.jO (roX σ.out)) c.d c.jL (rlX σ.left)) c.d c.jW (wkX p c σ)
theorem zBZ(p:List It)(S:ASt)(c:Xf)(σ:Xs):(updX p S c σ).map List.length=S.map List.length:=by unfold updX;rw[zAH,zAH,zAH]
theorem zD6{c:Xf}{σ:Xs}(h:XAt p S c σ)(τ:Xs)(d i:Nat):get2 (updX p S c τ) d i=if d=c.d/\i=c.jW then some (wkX p c τ)else if d=c.d/\i=c.jL then some (rlX τ.left)else if d=c.d/\i=c.jO then some (roX τ.out)else get2 S d i:=by
 obtain⟨hw,ho,hl,h1,h2,h3⟩:=h
 unfold updX
 have e1:get2 (set2 S c.d c.jO (roX τ.out)) c.d c.jL=some (rlX σ.left):=by rw[zF _ ho,if_neg (by omega)];exact hl
 have e2:get2 (set2 (set2 S c.d c.jO (roX τ.out)) c.d c.jL (rlX τ.left)) c.d c.jW=some (wkX p c σ):=by rw[zF _ e1,if_neg (by omega),zF _ ho,if_neg (by omega)];exact hw
 rw[zF _ e2,zF _ e1,zF _ ho]
theorem XAt.updX{c:Xf}{σ:Xs}(h:XAt p S c σ)(τ:Xs):XAt p (updX p S c τ) c τ:=by
 have h1:=h.wo
 have h2:=h.wl
 have h3:=h.ol
 refine⟨?_,?_,?_,h1,h2,h3⟩
 .rw[zD6 h,if_pos ⟨rfl,rfl⟩]
 .rw[zD6 h,if_neg (by omega),if_neg (by omega),if_pos ⟨rfl,rfl⟩]
 rw[zD6 h,if_neg (by omega),if_pos ⟨rfl,rfl⟩]
theorem zGA{c:Xf}{σ:Xs}(h:XAt p S c σ)(τ ρ:Xs):Proofs.YtgpajpilkapciaaGreatDoor.updX p (updX p S c τ) c ρ=Proofs.YtgpajpilkapciaaGreatDoor.updX p S c ρ:=by
 refine zDe (by rw[zBZ,zBZ,zBZ]) fun d i=>?_
 rw[zD6 (h.updX τ),zD6 h,zD6 h]
 repeat' (first|rfl|split)
theorem zCl{c:Xf}{σ:Xs}(h:XAt p S c σ):updX p S c σ=S:=by
 refine zDe (zBZ p S c σ) fun d i=>?_
 rw[zD6 h];split
 .rename_i hc;rw[hc.1,hc.2,h.w]
 split
 .rename_i hc;rw[hc.1,hc.2,h.l]
 split
 .rename_i hc;rw[hc.1,hc.2,h.o]
 rfl
theorem zNu{α:Type}(enc:α->List PV)(l:List α)(x:α):rowC enc (l++[x])=rowC enc l++(enc x).map AV.p:=by
 unfold rowC;rw[List.map_append,List.flatten_append];simp
theorem zUq{c:Xf}{σ:Xs}(h:XAt p S c σ)(x:Cr):set2 (set2 S c.d c.jO (roX (σ.out++[x]))) c.d c.jW (wkX p c ⟨σ.out++[x],σ.left⟩)=Proofs.YtgpajpilkapciaaGreatDoor.updX p S c ⟨σ.out++[x],σ.left⟩:=by
 have h3:=h.ol
 unfold Proofs.YtgpajpilkapciaaGreatDoor.updX;rw[zAG (S:=set2 S c.d c.jO (roX (σ.out++[x]))) (i:=c.jL) (o:=rlX σ.left)]
 rw[zF _ h.o,if_neg (by omega)];exact h.l
theorem zRm{c:Xf}{σ:Xs}(h:XAt p S c σ)(b:List Fi × List St):set2 (set2 S c.d c.jL (rlX (σ.left++[b]))) c.d c.jW (wkX p c ⟨σ.out,σ.left++[b]⟩)=Proofs.YtgpajpilkapciaaGreatDoor.updX p S c ⟨σ.out,σ.left++[b]⟩:=by
 unfold Proofs.YtgpajpilkapciaaGreatDoor.updX;rw[zAG (S:=S) (i:=c.jO) (o:=roX σ.out) h.o]
theorem XAt.cons{c:Xf}{σ:Xs}(h:XAt p S c σ)(L:List AObj):XAt p (L::S) c.up σ:=⟨h.w,h.o,h.l,h.wo,h.wl,h.ol⟩
theorem zII(p:List It)(L:List AObj)(S:ASt)(c:Xf)(σ:Xs):updX p (L::S) c.up σ=L::updX p S c σ:=by
 unfold updX
 show set2 (set2 (set2 (L::S) (c.d+1) c.jO (roX σ.out)) (c.d+1) c.jL (rlX σ.left)) (c.d+1) c.jW (wkX p c.up σ)=_
 rw[zAi,zAi,zAi];rfl
def XC(p:List It)(F:Nat)(args:List AV)(σ τ:Xs):Prop:=∀(S:ASt) (c:Xf),XAt p S c σ->ADet Tryz.prog F (.ptr c.d c.jW 0::args) S .un (updX p S c τ)
theorem XC.at{F:Nat}{args:List AV}{σ σ1 σ2:Xs}(hw:XC p F args σ1 σ2){c:Xf}(h:XAt p S c σ)(L:List AObj):ADet Tryz.prog F (.ptr (c.d+1) c.jW 0::args) (L::updX p S c σ1) .un (L::updX p S c σ2):=by
 have:=hw _ _ ((h.updX σ1).cons L)
 rw[zII,zGA h]at this;exact this
theorem XC.at0{F:Nat}{args:List AV}{σ σ2:Xs}(hw:XC p F args σ σ2){c:Xf}(h:XAt p S c σ)(L:List AObj):ADet Tryz.prog F (.ptr (c.d+1) c.jW 0::args) (L::S) .un (L::updX p S c σ2):=by
 have:=hw.at h L
 rw[zCl h]at this;exact this
def addD{α:Type}(S:List (List α))(d:Nat)(o:α):List (List α):=S.set d (S.getD d []++[o])
theorem zDB{α:Type}{S:List (List α)}(hd:d<S.length)(o:α)(d' i:Nat):get2 (addD S d o) d' i=if d'=d/\i=(S.getD d []).length then some o else get2 S d' i:=by
 unfold get2 addD
 by_cases h:d'=d
 .subst h
  rw[List.getElem?_set_self hd,List.getD_eq_getElem?_getD,List.getElem?_eq_getElem hd];simp only[Option.bind_some,Option.getD_some,true_and];rw[List.getElem?_append];split
  .rw[if_neg (by omega)]
  rename_i hi
  by_cases h2:i=S[d'].length
  .subst h2;rw[if_pos rfl,Nat.sub_self];rfl
  rw[if_neg h2,List.getElem?_eq_none (by simp;omega),List.getElem?_eq_none (by omega)]
 rw[List.getElem?_set_ne (fun e=>h e.symm),if_neg (fun e=>h e.1)]
theorem zGB{α:Type}{S:List (List α)}(hd:d<S.length)(o:α){d' i:Nat}{x:α}(h:get2 S d' i=some x):get2 (addD S d o) d' i=some x:=by
 rw[zDB hd];split
 .rename_i hc
  obtain⟨rfl,rfl⟩:=hc
  unfold get2 at h;rw[List.getD_eq_getElem?_getD,List.getElem?_eq_getElem hd]at h;simp only[Option.bind_some,Option.getD_some]at h;rw[List.getElem?_eq_none (Nat.le_refl _)]at h;cases h
 exact h
theorem zUr{α β:Type}{S:List (List α)}{T:List (List β)}(h:S.map List.length=T.map List.length)(d:Nat)(o:α)(o':β):(addD S d o).map List.length=(addD T d o').map List.length:=by
 have hl:S.length=T.length:=by have:=congrArg List.length h;simpa using this
 apply List.ext_getElem?
 intro j
 have hj:(S[j]?).map List.length=(T[j]?).map List.length:=by
  have:=congrArg (·[j]?) h
  simpa using this
 have hd:(S.getD d []).length=(T.getD d []).length:=by
  have:=congrArg (·[d]?) h
  simp only[List.getElem?_map]at this;rw[List.getD_eq_getElem?_getD,List.getD_eq_getElem?_getD];cases hs:S[d]?<;>cases ht:T[d]?<;>rw[hs,ht]at this<;>simp at this ⊢
  exact this
 unfold addD;rw[List.getElem?_map,List.getElem?_map,List.getElem?_set,List.getElem?_set,hl];split
 .split
  .simpa using hd
  rfl
 exact hj
theorem zUs{α:Type}(S:List (List α))(d:Nat)(o:α):(addD S d o).length=S.length:=by unfold addD;rw[List.length_set]
theorem zUt{φ:Fi2}(hd:d<φ.length)(e:Ent):Fle φ (addD φ d e):=fun d' i x h=>⟨x,zGB hd e h,x.le_refl⟩
theorem zPA{Pr:Prot}{φ:Fi2}{w:World}(h:Rel Pr φ S w)(hd:d<S.length)(E:TypeId)(k:Nat)(hk:0<k):
  ∃φ',Stp Pr φ w Pr φ' w/\Rel Pr φ' (addD S d (.row E k 0 [])) w/\top φ<=top φ':=by
 have hl:φ.length=S.length:=by have:=congrArg List.length h.shape;simpa using this
 have xd:d<φ.length:=by omega
 have ca:(φ.getD d []).length=(S.getD d []).length:=by
  have:=congrArg (·[d]?) h.shape
  simp only[List.getElem?_map]at this;rw[List.getD_eq_getElem?_getD,List.getD_eq_getElem?_getD,List.getElem?_eq_getElem hd,List.getElem?_eq_getElem xd];rw[List.getElem?_eq_getElem hd,List.getElem?_eq_getElem xd]at this
  simpa using this
 have hf:=zUt xd (⟨true,none,0,0,k⟩:Ent)
 have Bb:get2 (addD φ d (⟨true,none,0,0,k⟩:Ent)) d (φ.getD d []).length=some ⟨true,none,0,0,k⟩:=by rw[zDB xd,if_pos ⟨rfl,rfl⟩]
 refine⟨addD φ d ⟨true,none,0,0,k⟩,⟨Prot.le_refl _,hf,fun d i e g he hg=>?_,⟨rfl,rfl,rfl,Nat.le_refl _,fun _ _ _=>rfl⟩,zUs _ _ _,fun g o h k=>absurd h k⟩,⟨fun d' i o ho=>?_,fun d i e d' i' e' g h1 h2 h3 h4=>?_,fun d i e g h1 h2=>?_,h.pr,h.tb.of (Prot.le_refl _) (fun _ _ _=>rfl) (fun d i e g he hg=>by
  rw[zDB xd]at he;split at he
  .cases he;cases hg
  exact .inl ⟨d,i,e,he,hg⟩),zUr h.shape d _ _⟩,?_⟩
 .rw[zDB xd]at he
  split at he
  .cases he;cases hg
  exact .inl ⟨d,i,e,he,hg⟩
 .rw[zDB hd]at ho
  split at ho
  .rename_i hc
   obtain⟨rfl,rfl⟩:=hc
   cases ho;rw[<-ca];exact⟨_,Bb,rfl,rfl,rfl,hk,by simp,.inl ⟨rfl,rfl⟩⟩
  obtain⟨e,he,hr⟩:=h.obj d' i o ho
  exact⟨e,zGB xd _ he,hr.keep (Prot.le_refl _) (hf.drop d') fun g hg=>⟨rfl,fun _ h=>h⟩⟩
 .rw[zDB xd]at h1 h2
  split at h1
  .cases h1;cases h3
  split at h2
  .cases h2;cases h4
  exact h.dis d i e d' i' e' g h1 h2 h3 h4
 .rw[zDB xd]at h1
  split at h1
  .cases h1;cases h2
  exact h.lt d i e g h1 h2
 cases φ with
 |nil=>simp at xd
 |cons L R=>
  cases d with
  |zero=>simp[addD,top]
  |succ d=>simp[addD,top]
theorem zBA.ghostD{fr:List AV}(hd:d<S.length)(E:TypeId)(k:Nat)(hk:0<k):zBA fr S fr (addD S d (.row E k 0 [])):=fun Pr φ a w hf hR hne=>by
 obtain⟨φ',s,r,ht⟩:=zPA hR hd E k hk
 exact⟨φ',s,hf.mono s.pl s.fl,r,ht⟩
theorem zBA.nilD{fr:List AV}{d i j m k:Nat}{E t:TypeId}{cs:List AV}(hi:get2 S d i=some (.cells cs t))(hm:cs[m]? =some (.p (.v (.slice none 0 0))))(hj:get2 S d j=some (.row E k 0 [])):zBA fr S fr (set2 S d i (.cells (cs.set m (.rsl 0 j 0 k)) t)):=fun Pr φ a w hf hR hne=>by
 refine⟨φ,Stp.refl _ _ _,hf,⟨fun d' i' o ho=>?_,hR.dis,hR.lt,hR.pr,hR.tb,?_⟩,Nat.le_refl _⟩
 .rw[zF _ hi]at ho
  split at ho
  .rename_i hc
   cases ho
   obtain⟨rfl,rfl⟩:=hc
   obtain⟨e,he,g1,g,xs,g2,g3,g4,g5,g6⟩:=hR.obj d' i' _ hi
   refine⟨e,he,g1,g,xs,g2,g3,by rw[List.length_set];exact g4,fun n c x hc hx=>?_,g6⟩
   rw[List.getElem?_set]at hc;split at hc
   .rename_i Vo
    subst Vo;split at hc
    .cases hc
     have Xj:=g5 m _ x hm hx
     cases Xj with
     |p Ro=>
      cases Ro with
      |v Ce=>
       obtain⟨e2,k1,k2,k3,k4,k5,k6,k7⟩:=hR.obj d' j _ hj
       subst k4;refine .rnil (e:=e2) ?_ k2 (fun _=>?_)
       .unfold get2 at k1 ⊢
        rw[List.getElem?_drop,Nat.add_zero];exact k1
       rcases k7 with⟨_,k8⟩|⟨_,_,_,_,_,k8,_⟩
       .exact k8
       omega
    cases hc
   exact g5 n c x hc hx
  exact hR.obj d' i' o ho
 rw[zAH];exact hR.shape
theorem SWP.leads{P:Program}{c:Code}{fr ia:List AV}{S S':ASt}{Q:Exit->List AV->ASt->Prop}(h:zBA fr S ia S')(k:SWP P c ia S' Q):SWP P c fr S Q:=fun Pr φ a w hf hR hne=>by
 obtain⟨φ',s,Oj,xu,_⟩:=h Pr φ a w hf hR hne
 exact wp_mono (k Pr φ' a w Oj xu (zJ s hne)) fun e a' w' hp=>Post.trans s rfl e a' w' hp
theorem zEz(a b c:CrR):(a.cat b).cat c=a.cat (b.cat c):=by simp[CrR.cat]
theorem zRn(a:CrR):crZ.cat a=a.cat crZ:=by simp[CrR.cat,crZ]
theorem add_add(σ:Xs)(a b:CrR):(σ.add a).add b=σ.add (a.cat b):=by simp[Xs.add,CrR.cat]
theorem zXg(σ:Xs):σ.add crZ=σ:=by cases σ;simp[Xs.add,crZ]
theorem zUu(σ:Xs)(a:CrR):σ.add a.bare=σ.add a:=rfl
theorem zRo(σ:Xs)(v:List Fi):σ.add ⟨v,[],[],[]⟩=σ:=by cases σ;simp[Xs.add]
theorem zIJ(σ:Xs)(a:CrR):σ.add (a.cat crZ)=σ.add a:=by simp[Xs.add,CrR.cat,crZ]
def envQ(p:List It):List Fi->List St->List Fi
 |env,[]=>env
 |env,s::l=>envQ p (env++(crS p env s).vars) l
theorem zLZ(p:List It):∀(l:List St) (env:List Fi) (s:St),envQ p env (l++[s])=envQ p env l++(crS p (envQ p env l) s).vars
 | [],env,s=>rfl
 |t::l,env,s=>by
  rw[List.cons_append,envQ,envQ,zLZ p l]
theorem zLa(p:List It):∀(l:List St) (env:List Fi) (s:St),crSs p env (l++[s])=(crSs p env l).cat (crS p (envQ p env l) s)
 | [],env,s=>by
  rw[List.nil_append,crSs,crSs,envQ,crSs,zRn]
 |t::l,env,s=>by
  rw[List.cons_append,crSs,crSs,envQ,zLa p l,zEz]
def crB(p:List It)(env:List Fi):List (List St)->CrR
 | []=>crZ
 |b::l=>(crSs p env b).cat (crB p env l)
theorem zNv(p:List It)(env:List Fi):∀(l:List (List St)) (b:List St),crB p env (l++[b])=(crB p env l).cat (crSs p env b)
 | [],b=>by
  rw[List.nil_append]
  show(crSs p env b).cat crZ=crZ.cat (crSs p env b)
  rw[zRn]
 |t::l,b=>by rw[List.cons_append,crB,crB,zNv p env l,zEz]
theorem zLb(p:List It)(fs env:List Fi):∀(l:List Ar) (a:Ar),crAs p fs env (l++[a])=(crAs p fs env l).cat (crSs p (env++armG fs a.variant a.name) a.body)
 | [],a=>by rw[List.nil_append,zDA,crAs,zRn]
 |t::l,a=>by rw[List.cons_append,zDA,zDA,zLb p fs env l,zEz]
def hitG(f:Fi)(v n:BA):Bool:=sEq f.name v&& !sEq n emS
theorem zRp(fs:List Fi)(f:Fi)(v n:BA):armG (fs++[f]) v n=armG fs v n++(if hitG f v n=true then [⟨n,f.type⟩]else []):=by
 unfold armG hitG;rw[List.filter_append,List.map_append]
 congr 1
 cases h:(sEq f.name v&& !sEq n emS)
 .simp[h]
 simp only[Bool.and_eq_true,Bool.not_eq_true']at h
 simp[h.1,h.2]
theorem zRq(p:List It)(env:List Fi)(l:List St)(h:q<l.length):envQ p env (l.take (q+1))=envQ p env (l.take q)++(crS p (envQ p env (l.take q)) l[q]).vars:=by
 rw[List.take_succ_eq_append_getElem h,zLZ]
theorem zRr(p:List It)(env:List Fi)(l:List St)(h:q<l.length):crSs p env (l.take (q+1))=(crSs p env (l.take q)).cat (crS p (envQ p env (l.take q)) l[q]):=by
 rw[List.take_succ_eq_append_getElem h,zLa]
theorem zUv(p:List It)(env:List Fi)(l:List (List St))(h:q<l.length):crB p env (l.take (q+1))=(crB p env (l.take q)).cat (crSs p env l[q]):=by
 rw[List.take_succ_eq_append_getElem h,zNv]
theorem zRs(p:List It)(fs env:List Fi)(l:List Ar)(h:q<l.length):crAs p fs env (l.take (q+1))=(crAs p fs env (l.take q)).cat (crSs p (env++armG fs l[q].variant l[q].name) l[q].body):=by
 rw[List.take_succ_eq_append_getElem h,zLb]
theorem zRt(fs:List Fi)(v n:BA)(h:q<fs.length):armG (fs.take (q+1)) v n=armG (fs.take q) v n++(if hitG fs[q] v n=true then [⟨n,fs[q].type⟩]else []):=by
 rw[List.take_succ_eq_append_getElem h,zRp]
theorem zRu{p:List It}(hp:PrSm p):∀(l:List St),(∀s∈l,StSm s)->∀env,zh env->zh (envQ p env l)/\(envQ p env l).length<=env.length+(l.map St.nd).sum
 | [],_,env,he=>⟨he,by simp[envQ]⟩
 |s::l,h,env,he=>by
  have h1:=zLW hp s (h s (List.mem_cons_self ..)) env he
  have h2:=zRu hp l (fun t ht=>h t (List.mem_cons_of_mem _ ht)) _ (zA7 he h1.sm)
  have h3:=h1.vars
  rw[envQ];refine⟨h2.1,?_⟩
  have h4:=h2.2
  rw[List.length_append]at h4;rw[List.map_cons,List.sum_cons];omega
def zGC(σ:Xs)(n:Nat):Prop:=σ.out.length+n<=4000000000/\σ.left.length+n<=4000000000
theorem zGC.le{σ:Xs}{n m:Nat}(h:zGC σ n)(hm:m<=n):zGC σ m:=⟨by have:=h.1;omega,by have:=h.2;omega⟩
theorem CrN.out{n:Nat}{r:CrR}(h:CrN n r):r.out.length<=n:=by
 have h1:=h.all
 unfold CrR.all at h1;rw[List.length_append]at h1;omega
theorem zGC.add{σ:Xs}{n m:Nat}{r:CrR}(h:zGC σ (n+m))(hr:CrN n r):zGC (σ.add r) m:=by
 have h1:=hr.out
 have h2:=hr.left
 have h3:=h.1
 have h4:=h.2
 refine⟨?_,?_⟩
 .show(σ.out++r.out).length+m<=_
  rw[List.length_append];omega
 show(σ.left++r.left).length+m<=_
 rw[List.length_append];omega
def XSt(p:List It)(s:St):Prop:=∀(env:List Fi) (σ:Xs),zh env->env.length+20001*s.nd<=4000000000->zGC σ s.nd->∀(S:ASt) (c:Xf),XAt p S c σ->ADet Tryz.prog 75 [.ptr c.d c.jW 0,.p (.sl 4 (env.map Fi.enc)),stmV s] S (.p (.sl 4 ((crS p env s).vars.map Fi.enc))) (updX p S c (σ.add (crS p env s)))
theorem XSt.at{s:St}(hw:XSt p s){env:List Fi}{σ σ1:Xs}(he:zh env)(hb:env.length+20001*s.nd<=4000000000)(hr:zGC σ1 s.nd){c:Xf}(h:XAt p S c σ)(L:List AObj):ADet Tryz.prog 75 [.ptr (c.d+1) c.jW 0,.p (.sl 4 (env.map Fi.enc)),stmV s] (L::updX p S c σ1) (.p (.sl 4 ((crS p env s).vars.map Fi.enc))) (L::updX p S c (σ1.add (crS p env s))):=by
 have:=hw env σ1 he hb hr _ _ ((h.updX σ1).cons L)
 rw[zII,zGA h]at this;exact this
def zAA(l:List St):Nat:=(l.map St.nd).sum
theorem zXh(l:List St)(hq:q<l.length):zAA (l.take q)+l[q].nd<=zAA l:=zFs St.nd l q hq
structure LeftOk (p:List It) (n:Nat) (b:List Fi × List St):Prop where
 sm:zh b.1
 len:b.1.length<=20000
 sts:∀t∈b.2,StSm t/\StG p t
 cnt:b.2.length<=20000
 nd:zAA b.2<n
theorem LeftOk.up{n m:Nat}{b:List Fi × List St}(h:LeftOk p n b)(hm:n<=m):LeftOk p m b:=⟨h.sm,h.len,h.sts,h.cnt,Nat.lt_of_lt_of_le h.nd hm⟩
structure LeftR (p:List It) (n:Nat) (r:CrR):Prop where
 ok:∀b∈r.left,LeftOk p n b
 sub:r.sub=r.left.map fun b=>(crSs p b.1 b.2).all
theorem LeftR.z(p:List It)(n:Nat):LeftR p n crZ:=⟨nofun,rfl⟩
theorem LeftR.vs(p:List It)(n:Nat)(v:List Fi):LeftR p n ⟨v,[],[],[]⟩:=⟨nofun,rfl⟩
theorem LeftR.up{n m:Nat}{r:CrR}(h:LeftR p n r)(hm:n<=m):LeftR p m r:=⟨fun b hb=>(h.ok b hb).up hm,h.sub⟩
theorem LeftR.bare{n:Nat}{r:CrR}(h:LeftR p n r):LeftR p n r.bare:=⟨h.ok,h.sub⟩
theorem LeftR.cat{n:Nat}{a b:CrR}(ha:LeftR p n a)(hb:LeftR p n b):LeftR p n (a.cat b):=by
 refine⟨fun c hc=>?_,?_⟩
 .rcases List.mem_append.1 (show c∈a.left++b.left from hc)with h|h
  .exact ha.ok c h
  exact hb.ok c h
 show a.sub++b.sub=(a.left++b.left).map _
 rw[List.map_append,ha.sub,hb.sub]
theorem zGD{p:List It}(hp:PrSm p):∀(l:List St),(∀s∈l,StSm s)->(∀s∈l,∀env,zh env->LeftR p s.nd (crS p env s))->∀env,zh env->LeftR p (zAA l) (crSs p env l)
 | [],_,_,env,he=>by rw[crSs];exact LeftR.z _ _
 |s::l,ka,h,env,he=>by
  have h1:=h s (List.mem_cons_self ..) env he
  have h2:=zLW hp s (ka s (List.mem_cons_self ..)) env he
  rw[crSs]
  have e:zAA (s::l)=s.nd+zAA l:=by unfold zAA;rw[List.map_cons,List.sum_cons]
  rw[e];exact(h1.up (by omega)).cat ((zGD hp l (fun t ht=>ka t (List.mem_cons_of_mem _ ht)) (fun t ht=>h t (List.mem_cons_of_mem _ ht)) _ (zA7 he h2.sm)).up (by omega))
theorem zNw{p:List It}(hp:PrSm p){fs:List Fi}(hf:zHn fs):∀(l:List Ar),(∀a∈l,∀s∈a.body,StSm s)->(∀a∈l,∀s∈a.body,∀env,zh env->LeftR p s.nd (crS p env s))->∀env,zh env->LeftR p (l.map Ar.nd).sum (crAs p fs env l)
 | [],_,_,env,he=>by rw[crAs];exact LeftR.z _ _
 |a::l,ka,h,env,he=>by
  rw[zDA,List.map_cons,List.sum_cons];refine LeftR.cat ((zGD hp a.body (ka a (List.mem_cons_self ..)) (h a (List.mem_cons_self ..)) _ (zA7 he (zMc hf _ _))).up ?_) ((zNw hp hf l (fun t ht=>ka t (List.mem_cons_of_mem _ ht)) (fun t ht=>h t (List.mem_cons_of_mem _ ht)) env he).up (by omega))
  rw[arNd];unfold zAA;omega
theorem zXi(hp:PrSm p):∀s:St,StSm s->StG p s->∀env,zh env->LeftR p s.nd (crS p env s):=by
 intro s
 induction s using St.ind with
 |h s i1 i2 i3=>
 intro hs hg env he
 have fb:=stNd s
 obtain⟨_,_,g1,g2,g3,gb,ge,ga⟩:=hg
 obtain⟨_,vc,hn2,_,Eb,_,xa,La,_,_,hb,jb,Jd,rg⟩:=hs
 have hB:=zGD hp s.body hb fun t ht=>i1 t ht (hb t ht) (gb t ht)
 have hE:=zGD hp s.els jb fun t ht=>i2 t ht (jb t ht) (ge t ht)
 have hA:=fun fs (hf:zHn fs)=>zNw hp hf s.arms rg fun a ha t ht=>i3 a ha t ht (rg a ha t ht) (ga a ha t ht)
 have eB:zAA s.body=(s.body.map St.nd).sum:=rfl
 have eE:zAA s.els=(s.els.map St.nd).sum:=rfl
 rw[zE9];split
 .exact .vs _ _ _
 split
 .exact .vs _ _ _
 split
 .exact .vs _ _ _
 split
 .exact(LeftR.bare (hB _ (zA7 he (zC7 (zKB hp he _))))).up (by omega)
 split
 .exact(hA _ (zCW hp) env he).up (by omega)
 split
 .refine⟨fun b Gf=>?_,rfl⟩
  have we:b=(zAg s.names (zCG p env s.u5),s.body):=by
   have:b∈[(zAg s.names (zCG p env s.u5),s.body)]:=Gf
   simpa using this
  subst we;refine⟨zD0 _ _ (zHG hp he _ xa.2),?_,fun t ht=>⟨hb t ht,gb t ht⟩,La,?_⟩
  .have h1:=zDg p env s.u5
   have h2:=xa.1
   show(zAg s.names (zCG p env s.u5)).length<=20000
   unfold zAg;simp;omega
  show zAA s.body<s.nd
  omega
 exact((hB env he).up (by omega)).cat ((hE env he).up (by omega))
theorem zUw(hp:PrSm p){l:List St}(h:∀s∈l,StSm s/\StG p s){env:List Fi}(he:zh env):LeftR p (zAA l) (crSs p env l):=zGD hp l (fun s hs=>(h s hs).1) (fun s hs env he=>zXi hp s (h s hs).1 (h s hs).2 env he) env he
theorem zRv{α β:Type}[Inhabited β]{P:α->β->Prop}(l:List α)(h:∀a∈l,∃b,P a b):∃f:Nat->β,∀(i:Nat) (hi:i<l.length),P l[i] (f i):=
 ⟨fun i=>if hi:i<l.length then Classical.choose (h l[i] (List.getElem_mem hi))else default,fun i hi=>by
  simp only[hi,dif_pos];exact Classical.choose_spec (h l[i] (List.getElem_mem hi))⟩
attribute [local simp] List.replicate List.range List.range.loop zf za zn zb List.forall_mem_cons List.contains_cons List.contains_nil List.find? zm zl zZ
theorem zIK{a b:Nat}(h:a+b<=maxLen):IntKind.i64.wrap ((a:Int)+(b:Int))=((a+b:Nat):Int):=by
 unfold maxLen at h;rw[IntWalk.i64_in _ (by omega)];omega
theorem zRw{a:Nat}(h:a+1<=maxLen):IntKind.i64.wrap (((a+1:Nat):Int)-1)=(a:Int):=by
 unfold maxLen at h;rw[IntWalk.i64_in _ (by omega)];omega
theorem zJC:∀(l:List Ar) {q:Nat} (hq:q<l.length),((l.take q).map Ar.nd).sum+l[q].nd<=(l.map Ar.nd).sum
 |b::l,0,hq=>by simp
 |b::l,q+1,hq=>by
  have:=zJC l (q:=q) (by simpa using hq)
  simp only[List.take_succ_cons,List.map_cons,List.sum_cons,List.getElem_cons_succ]at this ⊢;omega
theorem zXj(l:List Ar)(d:Nat):spnA d l<=(l.map Ar.nd).sum:=zMe l (fun a _ s _ d=>zRl s d) d
theorem zXk:∀(d:Nat) (l:List St),d<=200->(∀s∈l,StSm s)->l.length<=20000->(l.map St.nd).sum<=30000->∀S,ADet Tryz.prog 9 [.p (.sl 15 (l.map St.enc)),I d] S (I (spnL d l)) S:=by
 intro d
 induction d with
 |zero=>
  intro l hd ka jd fb S
  have xi:l.length<=maxLen:=by unfold maxLen;omega
  rw[zZi];refine ADet.intro mixed call9 func9 rfl ?_;simp[ntmps9];refine zH (fun q:Unit=>True) (fun q=>([.p (.sl 15 (l.map St.enc)),I 0,.any,.any,.any,I 0,I 0]++List.replicate 69 .any)) (fun q=>[]::S) (fun q=>0) () trivial ?_ ?_ ?_
  .simp
  .simp
  intro _ _
  by_cases h0:0<l.length
  .have fa:(0:Int)<(l.length:Int):=by omega
   simp[h0,fa]
  have fa:¬(0:Int)<(l.length:Int):=by omega
  simp[h0,fa]
 |succ d ih=>
  intro l hd ka jd fb S
  have xi:l.length<=maxLen:=by unfold maxLen;omega
  have Dd:(0:Int)<((d+1:Nat):Int):=by omega
  have De:IntKind.i64.wrap (((d+1:Nat):Int)-1)=(d:Int):=zRw (by unfold maxLen;omega)
  have ih:=fun l=>ih l (by omega)
  generalize hD:((d+1:Nat):Int)=D at*
  refine ADet.intro mixed call9 func9 rfl ?_;simp[ntmps9];refine zH (fun q:Nat=>q<=l.length) (fun q=>([.p (.sl 15 (l.map St.enc)),I D,.any,.any,.any,I (spnL (d+1) (l.take q)),I q]++List.replicate 69 .any)) (fun q=>[]::S) (fun q=>l.length-q) 0 (Nat.zero_le _) ?_ ?_ ?_
  .simp[zF7]
  .simp
  intro q hq
  by_cases hlt:q<l.length
  .have aa:(q:Int)<(l.length:Int):=by omega
   have Ya:=zA hlt
   have ra:l.length-(q+1)<l.length-q:=by omega
   have yu:=zFs St.nd l q hlt
   have ta:=zIH (l.take q) (d+1)
   have Fd:spnL (d+1) (l.take (q+1))=spnL (d+1) (l.take q)+spnS (d+1) l[q]:=by
    rw[List.take_succ_eq_append_getElem hlt,zLX _ (by omega)]
   have hs:=ka _ (List.getElem_mem hlt)
   rw[zMb,Nat.add_sub_cancel]at Fd
   generalize spnL (d+1) (l.take q)=n at*
   generalize hy:l[q]=x at*
   have Bn:=stNd x
   obtain⟨_,_,_,_,_,_,xa,La,jb,Jd,Lf,kf,aq,bq⟩:=hs
   have b1:=ih x.body Lf La (by omega)
   have b2:=ih x.els kf jb (by omega)
   have c1:=zIH x.body d
   have c2:=zIH x.els d
   have c3:=zEc x.u5
   have Gg:x.u5.length<=maxLen:=by have:=xa.1;unfold maxLen;omega
   have Au:x.arms.length<=maxLen:=by unfold maxLen;omega
   obtain⟨e,he,Bu⟩:∃e:Nat,e=(if x.op=10 then x.u5.length else 0)/\e<=(x.u5.map Ex.nd).sum:=⟨_,rfl,by split<;>omega⟩
   rw[<-he]at Fd
   have w1:IntKind.i64.wrap ((n:Int)+(x.u5.length:Int))=((n+x.u5.length:Nat):Int):=zIK (by unfold maxLen;omega)
   have w2:IntKind.i64.wrap (((n+e:Nat):Int)+(spnL d x.body:Int))=((n+e+spnL d x.body:Nat):Int):=zIK (by unfold maxLen;omega)
   have w3:IntKind.i64.wrap (((n+e+spnL d x.body:Nat):Int)+(spnL d x.els:Int))=((n+e+spnL d x.body+spnL d x.els:Nat):Int):=zIK (by unfold maxLen;omega)
   generalize wv:n+e+spnL d x.body+spnL d x.els=m0 at*
   have Cu:m0+(x.arms.map Ar.nd).sum<=30000:=by omega
   have hA:∀k (hk:k<x.arms.length),(∀S,ADet Tryz.prog 9 [.p (.sl 15 (x.arms[k].body.map St.enc)),I d] S (I (spnL d x.arms[k].body)) S)/\IntKind.i64.wrap ((m0:Int)+(spnA d (x.arms.take k):Int)+(spnL d x.arms[k].body:Int))=(m0:Int)+(spnA d (x.arms.take (k+1)):Int)/\m0+spnA d (x.arms.take (k+1))=m0+spnA d (x.arms.take k)+spnL d x.arms[k].body:=fun k hk=>by
    have hm:=List.getElem_mem hk
    have h1:=zJC x.arms hk
    have h2:=arNd x.arms[k]
    have h3:=zXj (x.arms.take k) d
    have h4:=zIH x.arms[k].body d
    have h5:m0+spnA d (x.arms.take (k+1))=m0+spnA d (x.arms.take k)+spnL d x.arms[k].body:=by rw[List.take_succ_eq_append_getElem hk,zLY];omega
    exact⟨ih _ (bq _ hm) (aq _ hm).2.2 (by omega),by rw[IntWalk.i64_in _ (by omega)];omega,h5⟩
   by_cases h10:x.op=10
   .rw[if_pos h10]at he
    subst he
    have u2:IntKind.i64.wrap ((n:Int)+(x.u5.length:Int)+(spnL d x.body:Int))=(n:Int)+(x.u5.length:Int)+(spnL d x.body:Int):=IntWalk.i64_in _ (by omega)
    have u3:IntKind.i64.wrap ((n:Int)+(x.u5.length:Int)+(spnL d x.body:Int)+(spnL d x.els:Int))=(m0:Int):=by rw[IntWalk.i64_in _ (by omega)];omega
    simp[hlt,aa,Dd,hy,zBN,h10,w1];refine dB [(14,8)] (by kernel_rfl) ?_
    simp[hlt,aa,hy,zBN,De];refine cq (b1 _) ?_;simp[hlt,aa,hy,zBN,De,w2];refine cq (b2 _) ?_;simp[hlt,aa,hy,zBN,De,w2,w3];refine zH (fun k:Nat=>k<=x.arms.length) (fun k=>([.p (.sl 15 (l.map St.enc)),I D,.any,.any,.any,I (m0+spnA d (x.arms.take k):Nat),I q,I k]++List.replicate 68 .any)) (fun k=>[]::S) (fun k=>x.arms.length-k) 0 (Nat.zero_le _) ?_ ?_ ?_
    .simp[zF8,u2,u3]
    .simp
    intro k hk
    by_cases qj:k<x.arms.length
    .have sg:(k:Int)<(x.arms.length:Int):=by omega
     have Yg:=zA qj
     have Ka:x.arms.length-(k+1)<x.arms.length-k:=by omega
     obtain⟨g1,g2,g3⟩:=hA k qj
     simp[hlt,aa,hy,zBN,qj,sg,Ar.enc,De];refine cq (g1 _) ?_;simp;exact⟨k+1,qj,Ka,⟨g2,Yg⟩⟩
    have sg:¬(k:Int)<(x.arms.length:Int):=by omega
    obtain rfl:k=x.arms.length:=by omega
    rw[List.take_length];simp[hlt,aa,hy,zBN,sg];exact⟨q+1,hlt,ra,by rw[Fd];congr 1;omega,Ya⟩
   rw[if_neg h10]at he
   subst he
   have u2:IntKind.i64.wrap ((n:Int)+(spnL d x.body:Int))=(n:Int)+(spnL d x.body:Int):=IntWalk.i64_in _ (by omega)
   have u3:IntKind.i64.wrap ((n:Int)+(spnL d x.body:Int)+(spnL d x.els:Int))=(m0:Int):=by rw[IntWalk.i64_in _ (by omega)];omega
   simp[hlt,aa,Dd,hy,zBN,h10,w1];refine dB [(14,8)] (by kernel_rfl) ?_
   simp[hlt,aa,hy,zBN,De];refine cq (b1 _) ?_;simp[hlt,aa,hy,zBN,De,w2];refine cq (b2 _) ?_;simp[hlt,aa,hy,zBN,De,w2,w3];refine zH (fun k:Nat=>k<=x.arms.length) (fun k=>([.p (.sl 15 (l.map St.enc)),I D,.any,.any,.any,I (m0+spnA d (x.arms.take k):Nat),I q,I k]++List.replicate 68 .any)) (fun k=>[]::S) (fun k=>x.arms.length-k) 0 (Nat.zero_le _) ?_ ?_ ?_
   .simp[zF8,u2,u3]
   .simp
   intro k hk
   by_cases qj:k<x.arms.length
   .have sg:(k:Int)<(x.arms.length:Int):=by omega
    have Yg:=zA qj
    have Ka:x.arms.length-(k+1)<x.arms.length-k:=by omega
    obtain⟨g1,g2,g3⟩:=hA k qj
    simp[hlt,aa,hy,zBN,qj,sg,Ar.enc,De];refine cq (g1 _) ?_;simp;exact⟨k+1,qj,Ka,⟨g2,Yg⟩⟩
   have sg:¬(k:Int)<(x.arms.length:Int):=by omega
   obtain rfl:k=x.arms.length:=by omega
   rw[List.take_length];simp[hlt,aa,hy,zBN,sg];exact⟨q+1,hlt,ra,by rw[Fd];congr 1;omega,Ya⟩
  have aa:¬(q:Int)<(l.length:Int):=by omega
  obtain rfl:q=l.length:=by omega
  rw[List.take_length];simp[aa]
end Go.Proofs.YtgpajpilkapciaaGreatDoor
