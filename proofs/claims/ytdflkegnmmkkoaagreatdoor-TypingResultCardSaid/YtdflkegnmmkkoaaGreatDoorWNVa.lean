/- A part of the proof. -/
import Derived.Test.YtdflkegnmmkkoaaGreatDoorWNRd
import Derived.Test.YtdflkegnmmkkoaaGreatDoorWNSc
set_option linter.unusedVariables false
set_option linter.unusedSimpArgs false
set_option maxRecDepth 100000
set_option maxHeartbeats 32000000
namespace Go.Proofs.YtdflkegnmmkkoaaGreatDoor
open Go.RowKit _root_.Go.Proofs.Tryz
def SWP(P:Program)(c:Code)(fr:List AV)(S:ASt)(Q:Exit->List AV->ASt->Prop):Prop:=∀Pr φ a w,RF Pr φ fr a->Rel Pr φ S w->φ≠ []->c.wp P (Post Pr φ a w Q) a w
def SeqS(P:Program)(b:Code)(Q:Exit->List AV->ASt->Prop)(e:Exit)(fr:List AV)(S:ASt):Prop:=match e with| .normal=>SWP P b fr S Q|e=>Q e fr S
section
variable{P:Program}{fr:List AV}{S:ASt}{Q:Exit->List AV->ASt->Prop}
theorem zDL(b:Code):SeqS P b Q .normal fr S=SWP P b fr S Q:=rfl
theorem zHS(b:Code):SeqS P b Q .ret fr S=Q .ret fr S:=rfl
theorem SWP.of_awp{c:Code}(hm:P.follows .mixedOrders=true)(h:awp P c fr S Q):SWP P c fr S Q:=fun Pr φ a w h1 h2 h3=>zCx hm c Q Pr φ fr a S w h1 h2 h3 h
theorem SWP.seq{x y:Code}(h:SWP P x fr S (SeqS P y Q)):SWP P (.seq x y) fr S Q:=fun Pr φ a w h1 h2 h3=>by
 refine wp_seq (wp_mono (h Pr φ a w h1 h2 h3) fun e a' w' hp=>?_)
 obtain⟨ja,S',Pr',φ',k1,k2,k3,k4,k5⟩:=hp
 cases e with
 |normal=>exact wp_mono ((show SWP P y ja S' Q from k1) Pr' φ' a' w' k2 k3 (zL k4 h3)) fun e Xg Yg hp=>Post.trans k4 k5 e Xg Yg hp
 |_=>exact⟨ja,S',Pr',φ',k1,k2,k3,k4,k5⟩
theorem SWP.block{id:Nat}{x:Code}(h:SWP P x fr S (BlkQ id Q)):SWP P (.block id x) fr S Q:=fun Pr φ a w h1 h2 h3=>by
 refine wp_block (wp_mono (h Pr φ a w h1 h2 h3) fun e a' w' hp=>?_)
 obtain⟨ja,S',Pr',φ',k1,k2,k3,k4,k5⟩:=hp
 cases e with
 |exit j=>
  simp only[BlkQ]at k1;simp only[Exit.inBlock];split
  .rename_i hj
   rw[if_pos hj]at k1;exact⟨ja,S',Pr',φ',k1,k2,k3,k4,k5⟩
  rename_i hj
  rw[if_neg hj]at k1
  exact⟨ja,S',Pr',φ',k1,k2,k3,k4,k5⟩
 |_=>exact⟨ja,S',Pr',φ',k1,k2,k3,k4,k5⟩
end
theorem zYx{Pr:Prot}{φ:Fi2}{S:ASt}{w:World}(h:Rel Pr φ S w){i k n:Nat}{E:TypeId}{cs:List AV}(ho:get2 S 0 i=some (.row E k n cs)){rows:List (List PV)}(hn:rows.length=n)(h0:0<n)
  (hk:∀(r:Nat) (row:List PV),rows[r]? =some row->row.length=k) (hc:∀(r:Nat) (row:List PV) (j:Nat) (p:PV),rows[r]? =some row->row[j]? =some p->cs[r*k+j]? =some (.p p)):
  ∃Pr',Stp Pr φ w Pr' φ w/\Rel Pr' φ (set2 S 0 i .dead) w/\∀x,RA Pr φ (.rsl 0 i n k) x->RP Pr' (.sl k rows) x:=by
 obtain⟨e,he,Va,Jd,Tg,jd,kb,Fa⟩:=h.obj 0 i _ ho
 rcases Fa with⟨hz,_⟩|⟨g,xs,hg,ma,cb,hn0,an,Qr,Bf,mb⟩
 .omega
 have oa:Pr.le (fun b o=>if b=g then xs[o]? else Pr b o):=fun b o v hv=>by
  by_cases hb:b=g
  .subst hb;rw[mb]at hv;cases hv
  simp only[hb,if_false];exact hv
 have Ck:∀b,b≠g->∀o,Pr b o=none->(fun b o=>if b=g then xs[o]? else Pr b o) b o=none:=fun b hb o hv=>by simp only[hb,if_false];exact hv
 refine⟨fun b o=>if b=g then xs[o]? else Pr b o,⟨oa,Fle.refl φ,fun d i e g h k=>.inl ⟨d,i,e,h,k⟩,⟨rfl,rfl,rfl,Nat.le_refl _,fun _ _ _=>rfl⟩,rfl,fun b o h0 h1=>?_⟩,⟨fun d j o hj=>?_,h.dis,h.lt,fun b o v hv=>?_,?_,?_⟩,fun x hx=>?_⟩
 .by_cases hb:b=g
  .subst hb;exact .inl ⟨0,i,e,he,hg⟩
  simp only[hb,if_false]at h1;exact absurd h0 h1
 .rw[zQ _ ho]at hj
  split at hj
  .rename_i hc
   obtain⟨rfl,rfl⟩:=hc
   cases hj;exact⟨e,he,trivial⟩
  rename_i hne
  obtain⟨e',k1,k2⟩:=h.obj d j o hj
  refine⟨e',k1,k2.keep oa (Fle.refl _) fun g' Gb=>⟨rfl,fun o' ya=>Ck g' (fun Oe=>hne ?_) o' ya⟩⟩
  subst Oe;exact h.dis d j e' 0 i e g' k1 he Gb hg
 .by_cases hb:b=g
  .subst hb
   simp only[if_true]at hv;rw[zBb ma];exact hv
  simp only[hb,if_false]at hv
  exact h.pr b o v hv
 .exact h.tb.of oa (fun _ _ _=>rfl) fun d i e g a b=>.inl ⟨d,i,e,a,b⟩
 .rw[zBR];exact h.shape
 subst Tg
 generalize yf:e.k=kk at hx
 cases hx with
 |rnil=>omega
 |rsl h1 h2 h3 h4 h5 h6 h7=>
  rw[he]at h1;cases h1
  obtain⟨Oe,qd⟩:=h5 Jd.symm
  rw[hg]at Oe;cases Oe;subst qd
  have hlt:∀(r:Nat) (row:List PV) (j:Nat) (p:PV),rows[r]? =some row->row[j]? =some p->r*e.k+j<xs.size:=fun r row j p a b=>by
   have:=(List.getElem?_eq_some_iff.1 (hc r row j p a b)).1
   have h8:n*e.k<=e.cap*e.k:=Nat.mul_le_mul_right _ an
   omega
  rw[<-hn];refine .sl (fun r j=>xs.getD (r*e.k+j) undef) (by omega) h7 hk (fun r row j p a b=>?_) fun r row j p a b=>?_
  .have:=hlt r row j p a b
   simp[Array.getD,this]
  have hl:=hlt r row j p a b
  have h2:=Bf _ _ xs[r*e.k+j] (hc r row j p a b) (Array.getElem?_eq_getElem hl)
  cases h2 with
  |p h2=>
   have:=h2.mono oa
   simpa [Array.getD,hl]using this
theorem SWP.fzR{P:Program}{c:Code}{fr:List AV}{S:ASt}{Q:Exit->List AV->ASt->Prop}{i j k n:Nat}{E t:TypeId}{cs:List AV}(ho:get2 S 0 i=some (.row E k n cs))(hj:get2 S 0 j=some (.cells [.rsl 0 i n k] t))(rows:List (List PV))(hn:rows.length=n)(h0:0<n)
  (hk:∀(r:Nat) (row:List PV),rows[r]? =some row->row.length=k) (hc:∀(r:Nat) (row:List PV) (j:Nat) (p:PV),rows[r]? =some row->row[j]? =some p->cs[r*k+j]? =some (.p p)) (q:PV) (hq:LeP (.sl k rows) q)
  (h:SWP P c fr (set2 (set2 S 0 i .dead) 0 j (.cells [.p q] t)) Q):SWP P c fr S Q:=fun Pr φ a w hf hR hne=>by
 obtain⟨Pr',s1,r1,key⟩:=zYx hR ho hn h0 hk hc
 have rr:j≠i:=fun e=>by rw[e,ho]at hj;cases hj
 have Rr:get2 (set2 S 0 i .dead) 0 j=some (.cells [.rsl 0 i n k] t):=by
  rw[zQ _ ho,if_neg (fun e=>rr e.2)];exact hj
 have r2:Rel Pr' φ (set2 (set2 S 0 i .dead) 0 j (.cells [.p q] t)) w:=by
  refine⟨fun d m o hm=>?_,r1.dis,r1.lt,r1.pr,r1.tb,by rw[zBR];exact r1.shape⟩
  rw[zQ _ Rr]at hm;split at hm
  .rename_i hc
   obtain⟨rfl,rfl⟩:=hc
   cases hm
   obtain⟨e0,e1,e2,g0,jv,e3,e4,e5,e6,e7⟩:=hR.obj 0 m _ hj
   obtain⟨Qv,Sr,Dq,Rv,lv,Tr,Ur,Sv,Tv,nv⟩:=r1.obj 0 m _ Rr
   rw[e1]at Sr;cases Sr;rw[e3]at Tr;cases Tr;rw[e4]at Ur;cases Ur;refine⟨e0,e1,e2,g0,jv,e3,e4,e5,fun jj cc x a b=>?_,nv⟩
   cases jj with
   |zero=>
    simp only[List.getElem?_cons_zero,Option.some.injEq]at a;subst a
    exact .p (hq.ok (key x (e6 0 _ x rfl b)))
   |succ jj=>simp at a
  exact r1.obj d m o hm
 refine wp_mono (h Pr' φ a w (hf.mono s1.pl (Fle.refl _)) r2 hne) fun e a' w' hp=>Post.trans s1 rfl e a' w' hp
theorem ADet.introS{P:Program}{K:FuncId}{args:List AV}{S S':ASt}{r:AV}{fn:Func}{c:Code}(hK:∀xs w,(callFunc K xs).run P w= .ok (.enter K xs) w)(hf:P.funcs[K]? =some fn)(hb:fn.body=some c)
  (h:SWP P c (AV.ups 1 args++List.replicate (fn.ntmps-args.length) .un) ([]::S) (zME P fn.results.toList r S')):ADet P K args S r S':=by
 refine⟨hK,fun Pr φ xs w da hR hne=>?_⟩
 refine calls_of_wp hf hb ?_
 have nb:RF Pr ([]::φ) (AV.ups 1 args++List.replicate (fn.ntmps-args.length) .un) {tmps:=xs++Array.replicate (fn.ntmps-xs.size) undef,defers:=[]}:=by
  refine⟨by simp[zAK,da.1],fun t v x hv hx=>?_⟩
  rcases Nat.lt_or_ge t args.length with ht|ht
  .rw[List.getElem?_append_left (by rw[zAK];exact ht),zBt]at hv
   obtain⟨v0,h0,rfl⟩:=Option.map_eq_some_iff.1 hv
   simp only at hx;rw[Array.getElem?_append_left (by rw[<-da.1];exact ht)]at hx
   exact RA.up (k:=1) (da.2 t v0 x h0 hx)
  rw[List.getElem?_append_right (by rw[zAK];exact ht)]at hv
  simp only at hx;rw[Array.getElem?_append_right (by rw[<-da.1];exact ht)]at hx
  rw[List.getElem?_replicate]at hv;rw[Array.getElem?_replicate]at hx;split at hv
  .split at hx
   .cases hv;cases hx;exact .un
   cases hx
  cases hv
 refine wp_mono (h Pr ([]::φ) _ w nb (zCS hR) (by simp)) fun e a' w' hp=>?_
 obtain⟨ja,S1,Pr',φ',⟨he,vs,h1,h2,h3⟩,h4,h5,h6,h7⟩:=hp
 obtain⟨x,hx,ta⟩:=zB3 (P:=P) (fn:=fn) h4 h5 h1
 have Db:φ'≠ []:=zL h6 (by simp)
 obtain⟨l',φ1,rfl⟩:=List.exists_cons_of_ne_nil Db
 have tc:S1≠ []:=fun h0=>by have:=h5.shape;rw[h0]at this;simp at this
 obtain⟨L',S2,rfl⟩:=List.exists_cons_of_ne_nil tc
 simp only[List.tail_cons]at h3;subst h3
 have key:a'.defers=[]/\∃v,(results fn a'.tmps).run P w'= .ok v w'/\∃x Pr' φ',Ending.returned v= .returned x/\Stp Pr φ w Pr' φ' w'/\Rel Pr' φ' S2 w'/\RA Pr' φ' r x:=
  ⟨h7,x,ta,x,Pr',φ1,rfl,zCq h6,zB9 h5,hx.down r h2⟩
 rcases he with rfl|rfl
 .exact key
 exact key
end Go.Proofs.YtdflkegnmmkkoaaGreatDoor
namespace Go.Proofs.YtdflkegnmmkkoaaGreatDoor
open Go.RowKit _root_.Go.Proofs.Tryz
attribute [local simp] List.replicate List.range List.range.loop
theorem zNI(f:It->It)(l:List It)(hl:l.length<=20000)(K:Nat)(caps:List AV)(L:List AObj)(R:ASt)(hc:∀x∈l,∀M,ADet Tryz.prog K (itV x::AV.ups 1 caps) (M::L::R) (itV (f x)) (M::L::R)):
  ADet Tryz.prog 95 [.p (.sl 16 (l.map It.enc)),.fn (.func K) [] caps] (L::R) (.rsl 0 L.length l.length 16) ((L++[.row 45 16 l.length (rowC It.enc (l.map f))])::R):=by
 refine ADet.okP call95 0 rfl fun na=>?_
 have ca:=okl na
 refine ADet.merge mixed call95 func95 rfl ?_;simp[ntmps95];refine zET 45 16 (by decide) [] (fun q:Nat=>q<=l.length) (fun q=>[.p (.sl 16 (l.map It.enc)),.fn (.func K) [] (AV.ups 1 caps),.any,.any,.any,.rsl 0 0 q 16,.any,.any,.p (.sl 16 (l.map It.enc)),I l.length,I q,.any,.any,.any,.any,.any,.any,.any,.any,.any,.any,.any]) (fun q=>[.row 45 16 q (rowC It.enc ((l.map f).take q))]::L::R) (fun q=>l.length-q) (fun _=>1) 0 (Nat.zero_le _) ?_ ?_ ?_ ?_ ?_
 .intro q _;simp
 .simp
 .simp
 .rfl
 intro q hq
 by_cases hlt:q<l.length
 .have aa:(q:Int)<(l.length:Int):=by omega
  have hx:=fun M=>hc _ (List.getElem_mem hlt) M
  have hr:=zRV It.enc (l.map f) (q:=q) (by simpa using hlt)
  have eh:(l.map f)[q]'(by simpa using hlt)=f l[q]:=by simp
  rw[eh]at hr
  have Yi:=zJ1 It.enc ((l.map f).take q) 1
  have oa:q+1<=4294967296:=by omega
  generalize rowC It.enc ((l.map f).take q)=rc at*
  generalize hy:l[q]=x at*
  generalize f x=z at*
  simp[hlt,aa,hy,It.enc];refine cq (hx _) ?_;simp[oa,It.enc];refine⟨q+1,hlt,by omega,⟨rfl,zA hlt⟩,rfl,?_⟩
  rw[hr,zDs,List.map_append,<-zDs,Yi];exact za _
 have aa:¬(q:Int)<(l.length:Int):=by omega
 have Gj:q=l.length:=by omega
 subst Gj
 have ht:(l.map f).take l.length=l.map f:=List.take_of_length_le (by simp)
 have hm:=zHA It.enc (l.map f) L.length
 simp[ht,AV.mrg,AObj.mrg,hm]
theorem zYy(F:Nat)(g:Int->Int)(hg:AtF F g)(p:List It)(hp:PrSm p)(L:List AObj)(R:ASt):ADet Tryz.prog 39 [.agg [.p (prog p)],.fn (.func F) [] []] (L::R) (.agg [.rsl 0 (L.length+9) p.length 16]) ((L++(List.replicate 9 .dead++[.row 45 16 p.length (rowC It.enc (p.map (It.atm g)))]))::R):=by
 have iC:∀M,CpAt F (M::L::R) 0->ADet Tryz.prog 95 [.p (.sl 16 (p.map It.enc)),.fn (.func 96) [] [.ptr 0 8 0,.ptr 0 3 0,.ptr 0 5 0,.ptr 0 4 0,.ptr 0 1 0]] (M::L::R) (.rsl 0 M.length p.length 16) ((M++[.row 45 16 p.length (rowC It.enc (p.map (It.atm g)))])::L::R):=fun M h=>
  zNI (It.atm g) p hp.1 96 _ M (L::R) fun x hx M'=>by
   have:=zRy F g hg x (hp.2 x hx) _ _ (h.push M')
   simpa [AV.ups,AV.up]using this
 have m1:=zHA It.enc (p.map (It.atm g)) L.length
 generalize rowC It.enc (p.map (It.atm g))=rc at*
 refine ADet.mergeW mixed call39 func39 rfl ?_;simp[ntmps39,prog];refine cq (iC _ ⟨rfl,rfl,rfl,rfl,rfl,rfl,rfl⟩) ?_;simp[AV.mrg,AV.mrgs,AObj.mrg,m1,-wkL];refine(show wkL [AObj.row 45 16 p.length rc] [.row 45 16 p.length rc]from ?_)
 exact⟨⟨⟨rfl,rfl,rfl⟩,za _⟩,trivial⟩
theorem zcT(p:List It)(hp:PrSm p)(L:List AObj)(R:ASt):ADet Tryz.prog 13 [.agg [.p (prog p)]] (L::R) (.agg [.rsl 0 (L.length+11) p.length 16]) ((L++(List.replicate 11 .dead++[.row 45 16 p.length (rowC It.enc p)]))::R):=by
 have hg:AtF 41 (fun n=>n):=fun n S=>by
  refine ADet.intro mixed call41 func41 rfl ?_;simp[ntmps41]
 have hid:p.map (It.atm fun n=>n)=p:=by
  conv=>rhs;rw[<-List.map_id p]
  exact List.map_congr_left fun x _=>zR0 x
 have cC:=fun M=>zYy 41 _ hg p hp M (L::R)
 rw[hid]at cC
 have m1:=zHA It.enc p L.length
 have m2:=zJ1 It.enc p (L.length+12)
 generalize rowC It.enc p=rc at*
 refine ADet.mergeW mixed call13 func13 rfl ?_;simp[ntmps13];refine cq (cC _) ?_;simp[AV.mrg,AV.mrgs,AObj.mrg,m1,m2,-wkL];refine(show wkL [AObj.row 45 16 p.length rc] [.row 45 16 p.length rc]from ?_)
 exact⟨⟨⟨rfl,rfl,rfl⟩,za _⟩,trivial⟩
attribute [local simp] List.forall_mem_cons List.contains_cons List.contains_nil List.find?
def zCd(p:List It):Bool:=decide (zBM p=[]/\zFO p 300=some [])
theorem zbN(p:List It)(hp:PrSm p)(Ed:(p.map It.nd).sum<=30000)(S:ASt):ADet Tryz.prog 12 [.agg [.p (prog p)]] S (B (zCd p)) S:=by
 have cd:wkL [boxP p] [boxP p]:=⟨⟨rfl,za _⟩,trivial⟩
 cases hw:zAF p with
 |false=>
  have Vd:zBM p=[(2,0)]:=by unfold zBM;rw[if_neg (by rw[hw];simp)]
  have hg:zCd p=false:=by unfold zCd;rw[Vd];simp
  have nC:=fun R=>zSk p hp hw [boxP p] cd R
  rw[Vd]at nC;rw[hg];refine ADet.intro mixed call12 func12 rfl ?_;simp[ntmps12];refine cq (nC _) ?_
  simp
 |true=>
  have nC:=fun R=>zSj p hp Ed hw [boxP p] cd R
  cases hn:zBM p with
  |cons f l=>
   have hg:zCd p=false:=by unfold zCd;rw[hn];simp
   have hne:¬(l.length:Int)+1=0:=by omega
   have Db:((l.length:Int)+1==0)=false:=by simpa using hne
   rw[hn]at nC;rw[hg];refine ADet.intro mixed call12 func12 rfl ?_;simp[ntmps12];refine cq (nC _) ?_
   simp[hne,Db]
  |nil=>
   rw[hn]at nC
   obtain⟨fs,ht,Vc⟩:=zJg hw
   have tC:=fun S=>zWK p 300 hp fs ht (by omega) S
   have hg:zCd p=fs.isEmpty:=by unfold zCd;rw[hn,ht];cases fs<;>simp
   rw[hg];refine ADet.intro mixed call12 func12 rfl ?_;simp[ntmps12];refine cq (nC _) ?_;simp;refine cq (tC _) ?_
   cases fs with
   |nil=>simp
   |cons f l=>
    have hne:¬(l.length:Int)+1=0:=by omega
    have Db:((l.length:Int)+1==0)=false:=by simpa using hne
    simp[hne,Db]
theorem zL8{p:List It}(h:zCd p=true):zCp p=tgC p:=by
 unfold zCd at h;unfold zCp;rw[if_pos (of_decide_eq_true h)]
abbrev e0S:BA:=⟨#[]⟩
end Go.Proofs.YtdflkegnmmkkoaaGreatDoor
namespace Go.Proofs.YtdflkegnmmkkoaaGreatDoor
open Go.RowKit _root_.Go.Proofs.Tryz
variable{k:Nat}{p:List It}{q:List It}{x:It}
theorem zIl{α:Type}{enc:α->List PV}{k:Nat}(h:∀x,(enc x).length=k):∀{l:List α},(rowC enc l).length=k*l.length
 | []=>rfl
 |x::l=>by
  have:=zIl h (l:=l)
  unfold rowC at*;simp only[List.map_cons,List.flatten_cons,List.length_append,List.length_map,h,this,List.length_cons];rw[Nat.mul_succ,Nat.add_comm]
theorem zJh{α:Type}(enc:α->List PV)(n:Nat)(hn:∀x,(enc x).length=n):∀(l:List α) (k:Nat) (y:α),l[k]? =some y->((rowC enc l).drop (k*n)).take n=(enc y).map AV.p
 |x::l,0,y,h=>by
  simp at h;subst h
  have e:rowC enc (x::l)=(enc x).map AV.p++rowC enc l:=rfl
  rw[e,Nat.zero_mul,List.drop_zero,List.take_append_of_le_length (by simp[hn]),List.take_of_length_le (by simp[hn])]
 |x::l,k+1,y,h=>by
  have e:rowC enc (x::l)=(enc x).map AV.p++rowC enc l:=rfl
  have hl:((enc x).map AV.p).length=n:=by simp[hn]
  rw[e,List.drop_append,hl,List.drop_of_length_le (by rw[hl,Nat.add_mul];omega),List.nil_append]
  have e1:(k+1)*n-n=k*n:=by rw[Nat.add_mul];omega
  rw[e1];exact zJh enc n hn l k y (by simpa using h)
theorem zOb{α:Type}(enc:α->List PV)(n:Nat)(hn:∀x,(enc x).length=n){l:List α}{r j:Nat}{y:α}{q:PV}(h:l[r]? =some y)(hq:(enc y)[j]? =some q):(rowC enc l)[r*n+j]? =some (.p q):=by
 have h1:=zJh enc n hn l r y h
 have hj:j<n:=by rw[<-hn y];exact(List.getElem?_eq_some_iff.1 hq).1
 have h2:(((rowC enc l).drop (r*n)).take n)[j]? =some (.p q):=by rw[h1,List.getElem?_map,hq];rfl
 rw[List.getElem?_take,if_pos hj,List.getElem?_drop]at h2;exact h2
theorem zbO(hx:p[k]? =some x)(v:PV):∀(r:Nat) (row:List PV) (j:Nat) (pv:PV),((p.map It.enc).set k (x.enc.set 6 v))[r]? =some row->row[j]? =some pv->((rowC It.enc p).set (k*16+6) (.p v))[r*16+j]? =some (.p pv):=fun r row j pv h1 h2=>by
 have ca:∀y:It,y.enc.length=16:=fun _=>rfl
 have hk:=(List.getElem?_eq_some_iff.1 hx).1
 by_cases Vr:k=r
 .subst Vr
  rw[List.getElem?_set_self (by simpa using hk)]at h1
  cases h1
  by_cases h6:6=j
  .subst h6
   rw[List.getElem?_set_self (by rw[ca];omega)]at h2
   cases h2;rw[List.getElem?_set_self (by rw[zIl ca];omega)]
  rw[List.getElem?_set_ne h6]at h2
  rw[List.getElem?_set_ne (by omega)]
  exact zOb It.enc 16 ca hx h2
 rw[List.getElem?_set_ne Vr,List.getElem?_map]at h1
 obtain⟨y,hy,rfl⟩:=Option.map_eq_some_iff.1 h1
 have hj:j<16:=by have:=(List.getElem?_eq_some_iff.1 h2).1;rw[ca]at this;exact this
 rw[List.getElem?_set_ne (by omega)]
 exact zOb It.enc 16 ca hy h2
theorem zNJ(v:PV):∀(r:Nat) (row:List PV),((p.map It.enc).set k (x.enc.set 6 v))[r]? =some row->row.length=16:=fun r row h=>by
 have hm:=List.mem_of_getElem? h
 rcases List.mem_or_eq_of_mem_set hm with h1|rfl
 .obtain⟨y,_,rfl⟩:=List.mem_map.1 h1;rfl
 rw[List.length_set];rfl
theorem zIm{r r':List PV}(h:LeRow r r'):∀(l:List (List PV)) (i:Nat),LeRows (l.set i r) (l.set i r')
 | [],_=>.refl _
 |x::l,0=>.cons h (.refl _)
 |x::l,i+1=>.cons (.refl _) (zIm h l i)
def zNK(x:It):It:=⟨x.kind,x.name,x.fields,x.result,[],x.ret,x.pos⟩
theorem zYz(p:List It)(k:Nat)(x:It):LeP (.sl 16 ((p.map It.enc).set k (x.enc.set 6 (.v (.slice none 0 0))))) (prog (p.set k (zNK x))):=by
 unfold prog;rw[List.map_set];refine .sl (zIm ?_ _ _);exact .cons (.refl _) (.cons (.refl _) (.cons (.refl _) (.cons (.refl _) (.cons (.refl _) (.cons (.refl _) (.cons (.nil 15) (.refl _)))))))
theorem zY0(h:ItSm x):ItSm (zNK x):=⟨h.1,h.2.1,h.2.2.1,⟨by simp[zNK],fun y hy=>by simp[zNK]at hy⟩,h.2.2.2.2⟩
theorem zbP(hp:PrSm p)(hx:ItSm x):PrSm (p.set k x):=⟨by rw[List.length_set];exact hp.1,fun y hy=>by
 rcases List.mem_or_eq_of_mem_set hy with h|rfl
 .exact hp.2 y h
 exact hx⟩
theorem zOc:∀(p:List It) (k:Nat) (x y:It),p[k]? =some x->y.nd<=x.nd->((p.set k y).map It.nd).sum<=(p.map It.nd).sum
 | [],k,x,y,h,_=>by simp at h
 |z::p,0,x,y,h,hy=>by
  simp only[List.getElem?_cons_zero,Option.some.injEq]at h;subst h;simp only[List.set_cons_zero,List.map_cons,List.sum_cons]
  omega
 |z::p,k+1,x,y,h,hy=>by
  have:=zOc p k x y (by simpa using h) hy
  simp only[List.set_cons_succ,List.map_cons,List.sum_cons];omega
theorem zY1(x:It):(zNK x).nd<=x.nd:=by
 unfold It.nd zNK;simp only[List.map_nil,List.sum_nil];omega
abbrev zbQ:List PV:=[pU 3,pI 0,pS e0S,pS e0S,pS e0S,.v (.slice none 0 0),.v (.slice none 0 0),pI 0]
abbrev zbR:List PV:=[pU 7,pS e0S,pS e0S,.v (.slice none 0 0),pU 0,pS e0S,.v (.slice none 0 0),pI 0,pS e0S,.v (.slice none 0 0),.sl 8 [zbQ],.v (.slice none 0 0),.v (.slice none 0 0),.v (.slice none 0 0),pI 0]
def zKk(x:It):List PV:=[pU x.kind,pS x.name,.sl 4 (x.fields.map Fi.enc),pU x.result.kind,pS x.result.name,.sl 3 (x.result.args.map Ty.enc),.sl 15 [zbR],pU 3,pI 0,pS e0S,pS e0S,pS e0S,.v (.slice none 0 0),.v (.slice none 0 0),pI 0,pI x.pos]
theorem zVw:LeRow zbQ unE.enc:=by
 rw[zg unE];exact .cons (.refl _) (.cons (.refl _) (.cons (.refl _) (.cons (.refl _) (.cons (.refl _) (.cons (.nil 1) (.cons (.nil 8) (.refl _)))))))
theorem zVx:LeRow zbR whS.enc:=by
 rw[zCR whS];exact .cons (.refl _) (.cons (.refl _) (.cons (.refl _) (.cons (.nil 1) (.cons (.refl _) (.cons (.refl _) (.cons (.nil 3) (.cons (.refl _) (.cons (.refl _) (.cons (.nil 1) (.cons (.sl (.cons zVw (.refl _))) (.cons (.nil 15) (.cons (.nil 15) (.cons (.nil 3) (.refl _))))))))))))))
theorem zQH(x:It):LeRow (zKk x) (zB2 x).enc:=.cons (.refl _) (.cons (.refl _) (.cons (.refl _) (.cons (.refl _) (.cons (.refl _) (.cons (.refl _) (.cons (.sl (.cons zVx (.refl _))) (.cons (.refl _) (.cons (.refl _) (.cons (.refl _) (.cons (.refl _) (.cons (.refl _) (.cons (.nil 1) (.cons (.nil 8) (.refl _))))))))))))))
def zIw(w i:Nat)(x:It):List PV:=if i≠w/\x.kind=3 then zKk x else x.enc
def zGM(w:Nat):Nat->List It->List (List PV)
 |_,[]=>[]
 |i,x::l=>zIw w i x::zGM w (i+1) l
theorem zFG(w:Nat):∀(l:List It) (i:Nat),(zGM w i l).length=l.length
 | [],_=>rfl
 |x::l,i=>by rw[zGM,List.length_cons,zFG w l,List.length_cons]
theorem zJi(w:Nat):∀(l:List It) (i j:Nat) (h:j<l.length) (h':j<(zGM w i l).length),(zGM w i l)[j]=zIw w (i+j) l[j]
 |x::l,i,0,h,h'=>rfl
 |x::l,i,j+1,h,h'=>by
  have:=zJi w l (i+1) j (by simpa using h) (by rw[zFG];simpa using h)
  rw[show i+1+j=i+(j+1) by omega]at this
  exact this
theorem zL9(w:Nat):∀(l:List It) (i:Nat),LeRows (zGM w i l) ((zBE w i l).map It.enc)
 | [],i=>.refl _
 |x::l,i=>by
  rw[zGM,zBE,List.map_cons];refine .cons ?_ (zL9 w l (i+1));unfold zIw
  by_cases h:i≠w/\x.kind=3
  .rw[if_pos h,if_pos h];exact zQH x
  rw[if_neg h,if_neg h];exact .refl _
theorem zbS:ExSm unE:=.mk _ (by decide) (by decide) ⟨by decide,by decide,fun x hx=>by cases hx⟩ (by decide) (fun x hx=>by cases hx)
theorem zcU:StSm whS:=.mk _ (by decide) (by decide) ⟨by decide,fun x hx=>by cases hx⟩ (.mk _ (by decide) (by decide) (fun x hx=>by cases hx)) ⟨by decide,by decide,fun x hx=>by cases hx⟩ ⟨by decide,fun x hx=>by
 simp only[whS,St.u3,List.mem_singleton]at hx;subst hx;exact zbS⟩ (by decide) (by decide) (by decide) (fun x hx=>by cases hx) (fun x hx=>by cases hx) (fun x hx=>by cases hx) (fun x hx=>by cases hx)
theorem zY2(h:ItSm x):ItSm (zB2 x):=⟨h.1,h.2.1,h.2.2.1,⟨by simp[zB2],fun y hy=>by
 simp only[zB2,List.mem_singleton]at hy;subst hy;exact zcU⟩,zbS⟩
theorem zY3(x:It):(zB2 x).nd<=x.nd+100:=by
 have h:([whS].map St.nd).sum+unE.nd<=100:=by decide
 unfold It.nd zB2;simp only;omega
theorem zOd(w:Nat):∀(p:List It) (i:Nat),((zBE w i p).map It.nd).sum<=(p.map It.nd).sum+100*p.length
 | [],_=>Nat.le_refl _
 |x::p,i=>by
  have h1:=zOd w p (i+1)
  have h2:=zY3 x
  rw[zBE,List.map_cons,List.sum_cons,List.map_cons,List.sum_cons,List.length_cons];split<;>omega
theorem zVy{w:Nat}(hp:PrSm p):PrSm (zBE w 0 p):=⟨by rw[zIG];exact hp.1,fun z hz=>by
 obtain⟨y,hy,rfl|⟨_,rfl⟩⟩:=zDn w p 0 z hz
 .exact hp.2 _ hy
 exact zY2 (hp.2 y hy)⟩
theorem zEr(w:Nat):∀(l:List It) (i:Nat) (x:It),zAs w i (l++[x])=zAs w i l+(if i+l.length≠w/\x.kind=3 then 1 else 0)
 | [],i,x=>by simp[zAs]
 |y::l,i,x=>by
  rw[List.cons_append,zAs,zAs,zEr w l (i+1) x,List.length_cons,show i+1+l.length=i+(l.length+1) by omega]
  omega
theorem zDr(w:Nat):∀(l:List It) (i:Nat),zAs w i l<=l.length
 | [],i=>Nat.le_refl _
 |y::l,i=>by
  have:=zDr w l (i+1)
  rw[zAs,List.length_cons];split<;>omega
theorem zQI(h3:x.kind=3)(hw:x.whole 39=true):(match zPi q x.fields x.ret with|some t=>eqT t x.result|none=>false)=zIu q x:=by
 have gc:zBp x.ret=true:=by
  unfold It.whole at hw;rw[if_neg (by omega),if_pos h3]at hw
  simp only[Bool.and_eq_true]at hw;unfold zBp;rw[Bool.and_eq_true];exact⟨hw.2.2.2.1,zPj _ 38 40 (by decide) hw.2.2.2.2.1⟩
 rw[zMt gc];unfold zIu;cases tyE q x.fields x.ret<;>rfl
theorem zNL{w:Nat}(h:zCd q=true)(hx:q[w]? =some x)(h3:x.kind=3)(hb:x.body=[]):(zCp (zBE w 0 q)).length=zAs w 0 q+(if zIu q x=true then 0 else 1):=by
 unfold zCd at h
 obtain⟨h1,h2⟩:=of_decide_eq_true h
 have hr:zCd (zBE w 0 q)=true:=by
  unfold zCd;exact decide_eq_true ⟨zIH w h1,zPf w h1 h2⟩
 rw[zL8 hr,zLj hx h3 hb]
theorem zTD(h:zCd q=true):q.length<=30:=by
 unfold zCd at h
 have:=(zL0 (zDX (of_decide_eq_true h).1)).1
 omega
theorem zNM(h:zCd q=true):∀x∈q,x.whole 39=true:=by
 unfold zCd at h
 obtain⟨h1,h2⟩:=of_decide_eq_true h
 have hw:=zDX h1
 unfold zAF at hw;exact fun x hx=>(zL0 hw).2 x hx
attribute [local simp] List.replicate List.range List.range.loop
theorem zKl(p:List It)(w:Int)(S:ASt):ADet Tryz.prog 4 [.agg [.p (prog p)],I w] S (B true) S:=by
 have aC:=zVv
 have gC:=fun S=>zZq S p
 refine ADet.introS call4 func4 rfl ?_;refine SWP.seq (SWP.of_awp mixed ?_)
 simp[ntmps4,zDL];refine SWP.seq (SWP.of_awp mixed ?_)
 simp;refine cq (aC _) ?_;simp[zDL];refine SWP.seq (SWP.of_awp mixed ?_)
 simp;refine cq (gC _) ?_
 cases hg:great p with
 |true=>simp[zHS]
 |false=>
 by_cases Qc:w<0
 case pos=>simp[zHS,Qc]
 by_cases dh:(p.length:Int)<=w
 case pos=>simp[zHS,Qc,dh,prog]
 obtain⟨k,rfl⟩:∃k:Nat,w=(k:Int):=⟨w.toNat,by omega⟩
 have hk:k<p.length:=by omega
 have bn:¬(p.length:Int)<=(k:Int):=dh
 have If:(k:Int)<(p.length:Int):=by omega
 have sh:¬p.length<=k:=by omega
 have cn:¬(k:Int)<0:=Qc
 by_cases dn:p[k].kind=3
 case neg=>
  generalize hx:p[k]=x at*
  simp[zHS,cn,sh,bn,If,hk,prog,hx,It.enc,dn]
 have hp:=zXd hg
 have Ed:=zZ9 hg
 have cC:=fun L R=>zcT p hp L R
 have yf:(p[k].kind !=3)=false:=by simp[dn]
 generalize hx:p[k]=x at dn yf
 simp[zDL,cn,sh,bn,If,hk,prog,hx,It.enc,dn,yf];refine SWP.seq (SWP.of_awp mixed ?_)
 simp;refine cq (cC _ _) ?_;simp[zDL];refine SWP.seq (SWP.of_awp mixed ?_)
 have va:k*16+6<p.length*16:=by omega
 have Cd:k*16+16<=p.length*16:=by omega
 obtain⟨rc,On⟩:∃rc,rc=rowC It.enc p:=⟨_,rfl⟩
 have Dd:rc.length=p.length*16:=by rw[On,zIl (k:=16) (fun _=>rfl)];omega
 have Vj:k*16+6+1<=rc.length:=by omega
 rw[<-On];simp[zDL,If,hk,va,Cd,Vj]
 have Kj:p[k]? =some x:=by rw[List.getElem?_eq_getElem hk,hx]
 have ml:ItSm x:=hp.2 x (List.mem_of_getElem? Kj)
 obtain⟨y,hy⟩:∃y,y=zNK x:=⟨_,rfl⟩
 obtain⟨q,hq⟩:∃q,q=p.set k y:=⟨_,rfl⟩
 have oa:=zYz p k x
 have Wr:=zY0 ml
 have Xr:=zY1 x
 have Yr:y.kind=3:=by rw[hy];exact dn
 have rn:y.body=[]:=by rw[hy];rfl
 rw[<-hy]at oa Wr Xr;rw[<-hq]at oa
 have qh:PrSm q:=by rw[hq];exact zbP hp Wr
 have Uv:(q.map It.nd).sum<=20000:=by rw[hq];exact Nat.le_trans (zOc p k x y Kj Xr) Ed
 have Gj:q.length=p.length:=by rw[hq,List.length_set]
 have Zr:k<q.length:=by rw[Gj];exact hk
 have Pn:q[k]=y:=by subst hq;exact List.getElem_set_self _
 have Vg:q[k]? =some y:=by rw[List.getElem?_eq_getElem Zr,Pn]
 refine SWP.fzR (i:=12) (j:=13) (k:=16) (n:=p.length) rfl rfl ((p.map It.enc).set k (x.enc.set 6 (.v (.slice none 0 0)))) (by simp) (by omega) (zNJ _) (by rw[On];exact zbO Kj _) (prog q) oa ?_
 refine(show SWP _ _ _ ([.cells [.p (prog p)] 24,.dead,.dead,.dead,.dead,.dead,.dead,.dead,.dead,.dead,.dead,.dead,.dead,.cells [.p (prog q)] 24]::S) _ from ?_)
 clear oa Kj ml Dd va Cd Vj On hq hy
 have rC:=fun S=>zbN q qh (by omega) S
 refine SWP.of_awp mixed ?_;simp;refine cq (rC _) ?_
 cases hr:zCd q with
 |false=>simp
 |true=>
 have Lc:=zNM hr
 have ca:=zTD hr
 have ef:=zVy (w:=k) qh
 have ov:=zOd k q 0
 have kb:=zNL hr Vg Yr rn
 have Ud:=zQI (q:=q) Yr (Lc y (List.mem_of_getElem? Vg))
 have dl:ItSm y:=qh.2 y (List.mem_of_getElem? Vg)
 have xC:=fun S=>zYr q qh y.fields (fun f hf=>(dl.2.1.2 f hf).2) (by have:=dl.2.1.1;omega) y.ret dl.2.2.2.2 S
 have sC:=fun t S=>zCw t y.result S
 have tC:=fun S=>zOa (zBE k 0 q) ef (by omega) S
 obtain⟨A,hA⟩:∃A,A=zGM k 0 q:=⟨_,rfl⟩
 have qv:A.length=q.length:=by rw[hA,zFG]
 have rv:LeRows A ((zBE k 0 q).map It.enc):=by rw[hA];exact zL9 k q 0
 have cC:∀(d i:Nat) (S:ASt),ADet Tryz.prog 10 [.agg [.osl 16 A d i]] S (.p (.sl 2 ((zCp (zBE k 0 q)).map fltE))) S:=fun d i S=>ADet.sub (.cons (.agg (.cons (.osl rv) (.refl _))) (.refl _)) (tC S)
 have sv:∀j (h:j<q.length),A.take (j+1)=A.take j++[zIw k j q[j]]:=fun j h=>by
  have h':j<(zGM k 0 q).length:=by rw[zFG];exact h
  rw[hA,List.take_succ_eq_append_getElem h',zJi k q 0 j h h',Nat.zero_add]
 clear Lc ef ov tC
 have yq:(k:Int)<(q.length:Int):=by omega
 simp[prog,Zr,yq,Pn,It.enc];refine zAw 45 16 (by decide) [.cells [.p (prog p)] 24,.dead,.dead,.dead,.dead,.dead,.dead,.dead,.dead,.dead,.dead,.dead,.dead,.cells [.p (prog q)] 24,.cells (itU y) 45,.cells [.osl 16 [] 0 16] 24] (fun m:Nat=>m<=q.length) (fun m=>([.any,I k,.ptr 0 0 0,.any,B false,.ptr 0 13 0,.ptr 0 14 0,.ptr 0 15 0,I m]++List.replicate 128 .any)) (fun m=>[.cells [.p (prog p)] 24,.dead,.dead,.dead,.dead,.dead,.dead,.dead,.dead,.dead,.dead,.dead,.dead,.cells [.p (prog q)] 24,.cells (itU y) 45,.cells [.osl 16 (A.take m) 0 16] 24,.tok 45 16 m]::S) (fun m=>q.length-m) 0 (Nat.zero_le _) ?_ ?_ ?_ ?_
 .simp[prog,itU]
 .simp[prog,itU]
 .rfl
 intro m hm
 by_cases hlt:m<q.length
 .have aa:(m:Int)<(q.length:Int):=by omega
  have ud:=zA hlt (by unfold maxLen;omega)
  have hb:m+1<=4294967296:=by omega
  have Aa:q.length-(m+1)<q.length-m:=by omega
  have sf:=sv m hlt
  have wc:min m A.length=m:=by rw[qv];omega
  have Cd:m<=4294967295:=by omega
  generalize hz:q[m]=z at*
  by_cases Ha:m=k
  .subst Ha
   rw[Pn]at hz;subst hz
   have fb:zIw m m y=y.enc:=by unfold zIw;rw[if_neg (by omega)]
   rw[fb]at sf;simp[prog,hlt,aa,Pn,It.enc,hb,Cd,wc,itU];exact⟨m+1,hlt,Aa,ud,sf.symm,rfl⟩
  have Tf:¬(m:Int)=(k:Int):=by omega
  have Uf:((m:Int) !=(k:Int))=true:=by rw[bne_iff_ne];omega
  by_cases Td:z.kind=3
  .have fb:zIw k m z=zKk z:=by unfold zIw;rw[if_pos ⟨Ha,Td⟩]
   rw[fb]at sf;simp[prog,hlt,aa,hz,Td,It.enc,hb,Cd,wc,itU,Ha,Tf,Uf];refine⟨m+1,hlt,Aa,ud,?_,rfl⟩;rw[sf];simp[zKk,Td]
  have fb:zIw k m z=z.enc:=by unfold zIw;rw[if_neg (by omega)]
  rw[fb]at sf;simp[prog,hlt,aa,hz,Td,It.enc,hb,Cd,wc,itU,Ha,Tf,Uf];exact⟨m+1,hlt,Aa,ud,sf.symm,rfl⟩
 obtain rfl:m=q.length:=by omega
 have aa:¬(q.length:Int)<(q.length:Int):=by omega
 have js:A.take q.length=A:=List.take_of_length_le (by omega)
 rw[js];simp[prog,js,itU]
 generalize zCp (zBE k 0 q)=L at kb cC
 refine cq (xC _) ?_
 cases ua:zPi q y.fields y.ret with
 |none=>
  rw[ua]at Ud;simp only at Ud;simp[payT];refine cq (cC _ _ _) ?_;simp[prog];refine zH (fun m:Nat=>m<=q.length) (fun m=>([.any,I k,.any,.any,.any,.ptr 0 13 0,.any,.any,.any,.any,.any,.any,B (zIu q y),.p (.sl 2 (L.map fltE)),I (zAs k 0 (q.take m)),I m]++List.replicate 121 .any)) (fun m=>[.cells [.p (prog p)] 24,.dead,.dead,.dead,.dead,.dead,.dead,.dead,.dead,.dead,.dead,.dead,.dead,.cells [.p (prog q)] 24,.cells (itU y) 45,.cells [.osl 16 A 0 16] 24,.tok 45 16 q.length,.cells [.any,.any,.any] 36]::S) (fun m=>q.length-m) 0 (Nat.zero_le _) ?_ ?_ ?_
  .simp[zAs,Ud]
  .simp[prog,itU]
  intro m hm
  by_cases hlt:m<q.length
  .have Ia:(m:Int)<(q.length:Int):=by omega
   have ud:=zA hlt (by unfold maxLen;omega)
   have Aa:q.length-(m+1)<q.length-m:=by omega
   have ho:=zEr k (q.take m) 0 q[m]
   have Jj:=zDr k (q.take m) 0
   rw[<-List.take_succ_eq_append_getElem hlt,List.length_take,Nat.min_eq_left hm,Nat.zero_add]at ho;rw[List.length_take,Nat.min_eq_left hm]at Jj
   have gl:=zA (n:=4294967296) (q:=zAs k 0 (q.take m)) (by omega) (by unfold maxLen;omega)
   generalize zAs k 0 (q.take m)=o at*
   generalize hz:q[m]=z at*
   by_cases Ha:m=k
   .rw[if_neg (by omega)]at ho
    subst Ha;simp[prog,hlt,Ia,hz,It.enc,itU];exact⟨m+1,hlt,Aa,by rw[ho];simp,ud⟩
   have Tf:¬(m:Int)=(k:Int):=by omega
   have Uf:((m:Int) !=(k:Int))=true:=by rw[bne_iff_ne];omega
   by_cases Td:z.kind=3
   .rw[if_pos ⟨Ha,Td⟩]at ho
    simp[prog,hlt,Ia,hz,Td,It.enc,itU,Ha,Tf,Uf];exact⟨m+1,hlt,Aa,by rw[ho];exact gl,ud⟩
   rw[if_neg (by omega)]at ho
   simp[prog,hlt,Ia,hz,Td,It.enc,itU,Ha,Tf,Uf];exact⟨m+1,hlt,Aa,by rw[ho];simp,ud⟩
  obtain rfl:m=q.length:=by omega
  rw[List.take_length]
  have Ia:¬(q.length:Int)<(q.length:Int):=by omega
  have Jj:=zDr k q 0
  have gl:=zA (n:=4294967296) (q:=zAs k 0 q) (by omega) (by unfold maxLen;omega)
  generalize zAs k 0 q=o at*
  cases Of:zIu q y with
  |true=>
   rw[if_pos Of]at kb
   simp[prog,kb]
  |false=>
   rw[if_neg (by rw[Of];simp)]at kb
   simp[prog,kb,gl]
 |some t=>
  rw[ua]at Ud;simp only at Ud;simp[payT];refine cq (sC _ _) ?_;simp;refine cq (cC _ _ _) ?_;simp[prog];refine zH (fun m:Nat=>m<=q.length) (fun m=>([.any,I k,.any,.any,.any,.ptr 0 13 0,.any,.any,.any,.any,.any,.any,B (zIu q y),.p (.sl 2 (L.map fltE)),I (zAs k 0 (q.take m)),I m]++List.replicate 121 .any)) (fun m=>[.cells [.p (prog p)] 24,.dead,.dead,.dead,.dead,.dead,.dead,.dead,.dead,.dead,.dead,.dead,.dead,.cells [.p (prog q)] 24,.cells (itU y) 45,.cells [.osl 16 A 0 16] 24,.tok 45 16 q.length,.cells [.any,.any,.any] 36]::S) (fun m=>q.length-m) 0 (Nat.zero_le _) ?_ ?_ ?_
  .simp[zAs,Ud]
  .simp[prog,itU]
  intro m hm
  by_cases hlt:m<q.length
  .have Ia:(m:Int)<(q.length:Int):=by omega
   have ud:=zA hlt (by unfold maxLen;omega)
   have Aa:q.length-(m+1)<q.length-m:=by omega
   have ho:=zEr k (q.take m) 0 q[m]
   have Jj:=zDr k (q.take m) 0
   rw[<-List.take_succ_eq_append_getElem hlt,List.length_take,Nat.min_eq_left hm,Nat.zero_add]at ho;rw[List.length_take,Nat.min_eq_left hm]at Jj
   have gl:=zA (n:=4294967296) (q:=zAs k 0 (q.take m)) (by omega) (by unfold maxLen;omega)
   generalize zAs k 0 (q.take m)=o at*
   generalize hz:q[m]=z at*
   by_cases Ha:m=k
   .rw[if_neg (by omega)]at ho
    subst Ha;simp[prog,hlt,Ia,hz,It.enc,itU];exact⟨m+1,hlt,Aa,by rw[ho];simp,ud⟩
   have Tf:¬(m:Int)=(k:Int):=by omega
   have Uf:((m:Int) !=(k:Int))=true:=by rw[bne_iff_ne];omega
   by_cases Td:z.kind=3
   .rw[if_pos ⟨Ha,Td⟩]at ho
    simp[prog,hlt,Ia,hz,Td,It.enc,itU,Ha,Tf,Uf];exact⟨m+1,hlt,Aa,by rw[ho];exact gl,ud⟩
   rw[if_neg (by omega)]at ho
   simp[prog,hlt,Ia,hz,Td,It.enc,itU,Ha,Tf,Uf];exact⟨m+1,hlt,Aa,by rw[ho];simp,ud⟩
  obtain rfl:m=q.length:=by omega
  rw[List.take_length]
  have Ia:¬(q.length:Int)<(q.length:Int):=by omega
  have Jj:=zDr k q 0
  have gl:=zA (n:=4294967296) (q:=zAs k 0 q) (by omega) (by unfold maxLen;omega)
  generalize zAs k 0 q=o at*
  cases Of:zIu q y with
  |true=>
   rw[if_pos Of]at kb
   simp[prog,kb]
  |false=>
   rw[if_neg (by rw[Of];simp)]at kb
   simp[prog,kb,gl]
end Go.Proofs.YtdflkegnmmkkoaaGreatDoor
