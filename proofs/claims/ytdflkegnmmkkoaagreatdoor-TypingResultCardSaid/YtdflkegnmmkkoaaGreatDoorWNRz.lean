/- A part of the proof. -/
import Derived.Test.YtdflkegnmmkkoaaGreatDoorWNRw
set_option linter.unusedVariables false
set_option linter.unusedSimpArgs false
set_option maxRecDepth 100000
set_option maxHeartbeats 32000000
namespace Go.Proofs.YtdflkegnmmkkoaaGreatDoor
open Go.RowKit _root_.Go.Proofs.Tryz
attribute [local simp] List.replicate List.range List.range.loop List.forall_mem_cons List.contains_cons List.contains_nil List.find?
theorem zYV{l:List Tok}{s:RS}{x:Tok}{v:Int}(hs:s.at_<=l.length)(hb:s.bad=false)(hx:l[s.at_]? =some x)(hk:x.kind=4)(h0:numT x.text=some v):RdC 224 [] l s ⟨s.at_+1,s.bad,s.full⟩ (exV (ex0 1 v emS [] x.pos)):=by
 refine RdC.less (r:=.agg [U 1,I v,Sg emS,Sg emS,Sg emS,nilS,nilS,I x.pos]) (by repeat' constructor) (RdC.intro fun S d i hR=>?_)
 have ho:=(hR.upd s hs).o
 have hlt:=(List.getElem?_eq_some_iff.1 hx).1
 have aa:¬(l.length:Int)<=(s.at_:Int):=by omega
 have Ia:(s.at_:Int)<(l.length:Int):=by omega
 clear hlt
 have hh:zGV l s 4=true:=by unfold zGV;rw[hb,hx];simp[hk]
 have ht:zAJ l s 4=x.text:=by unfold zAJ;rw[if_pos hh,hx]
 have hp:zBN l s 4=⟨s.at_+1,s.bad,s.full⟩:=by unfold zBN;rw[if_pos hh]
 have tC:=zG0 (l:=l) s 4
 rw[ht,hp]at tC;unfold numT at h0;split at h0
 .rename_i hc
  cases h0
  obtain⟨c1,c2,c3,c4⟩:=hc
  have nC:=fun S=>zWG x.text c2 c1 (fun b hb=>List.all_eq_true.1 c3 b hb) c4 S
  refine ADet.intro mixed call224 func224 rfl ?_;simp[ntmps224];refine dB [] (by kernel_rfl) ?_
  simp[ho,hb,aa];refine dB [(3,10),(7,10),(9,10)] (by kernel_rfl) ?_
  simp[ho,hx,Ia,Tok.enc,hk];refine cq (tC.at hR hs _) ?_;simp;refine cq (nC _) ?_;simp;rw[hb]
 cases h0
theorem zVa{l:List Tok}{s s1:RS}{x:Tok}{op:Int}{e:Ex}(hs:s.at_<=l.length)(hn:l.length<=1500)(hb:s.bad=false)(hx:l[s.at_]? =some x)(k2:¬x.kind=2)(k3:¬x.kind=3)(k4:¬x.kind=4)(hf:zB0 x.text zPy=some op)(cC:RdC 237 [U op,I x.pos] l ⟨s.at_+1,s.bad,s.full⟩ s1 (exV e)):RdC 224 [] l s s1 (exV e):=RdC.intro fun S d i hR=>by
 have ho:=(hR.upd s hs).o
 have hlt:=(List.getElem?_eq_some_iff.1 hx).1
 have aa:¬(l.length:Int)<=(s.at_:Int):=by omega
 have Ia:(s.at_:Int)<(l.length:Int):=by omega
 obtain⟨Q,hQ⟩:∃Q,Q=s.at_+1:=⟨_,rfl⟩
 have hw:IntKind.i64.wrap ((s.at_:Int)+1)=(Q:Int):=by rw[hQ];exact zCb (b:=1) (by unfold maxLen;omega)
 rw[<-hQ]at cC
 have Le:(⟨Q,s.bad,s.full⟩:RS).at_<=l.length:=by show Q<=_;omega
 have cA:=fun L=>cC.at hR Le L
 rw[hb]at cA;clear hlt
 obtain⟨j,hj⟩:=z5 x.text zPy 0
 rw[hf,Option.map_some]at hj;refine ADet.intro mixed call224 func224 rfl ?_;simp[ntmps224];refine dB [] (by kernel_rfl) ?_
 simp[ho,hb,aa];refine dB [(3,10),(7,10),(9,10)] (by kernel_rfl) ?_
 simp[ho,hx,Ia,Tok.enc,k2,k3,k4];refine dB [(2,0)] (by kernel_rfl) ?_
 simp;refine cq (zab _ _) ?_;simp[mapK,hj,ho,hb,hw];refine cq (cA _) ?_;simp
theorem smpW{n:Nat}(hn:n<=100000){l:List Tok}(hl:l.length<=1500){rd:RS->Option (Ex × RS)}(Oa:RdOk l rd){s:RS}{e:Ex}{s':RS}(hs:s.at_<=l.length)(h:zM5 l n rd s=some (e,s')):RdC 224 [] l s s' (exV e)/\s'.at_<=l.length:=by
 unfold zM5 at h
 cases hb:s.bad with
 |true=>
  rw[hb,if_pos rfl]at h;cases h
  exact⟨(zPt hb).less zLw,hs⟩
 |false=>
 rw[hb,if_neg (by simp)]at h
 cases hx:l[s.at_]? with
 |none=>
  rw[hx]at h;cases h
  have:=List.getElem?_eq_none_iff.1 hx
  exact⟨(zPu hb (by omega)).less zLw,hs⟩
 |some x=>
  rw[hx]at h
  have hlt:=(List.getElem?_eq_some_iff.1 hx).1
  dsimp only at h
  split at h
  .rename_i k4
   obtain⟨v,hv,he⟩:=Option.map_eq_some_iff.1 h
   cases he
   have:=zYV hs hb hx k4 hv
   rw[hb]at this;exact⟨this,hlt⟩
  rename_i k4
  split at h
  .rename_i k3
   unfold zWP at h;cases h
  rename_i k3
  split at h
  .rename_i k2
   split at h
   .cases h
   rename_i hi
   obtain⟨⟨p,s1⟩,hp,he⟩:=Option.map_eq_some_iff.1 h
   cases he;exact⟨zPv hn hs hb hx k2 (by simpa using hi) hp,(zGC hs hp).1⟩
  rename_i k2
  cases hf:zB0 x.text zPy with
  |some op=>
   rw[hf]at h
   dsimp only at h
   rw[<-hb]at h
   obtain⟨a,b⟩:=zYU hn Oa (s:=⟨s.at_+1,s.bad,s.full⟩) hlt h
   exact⟨zVa hs hl hb hx k2 k3 k4 hf a,b⟩
  |none=>
   rw[hf]at h;cases h
end Go.Proofs.YtdflkegnmmkkoaaGreatDoor
namespace Go.Proofs.YtdflkegnmmkkoaaGreatDoor
open Go.RowKit _root_.Go.Proofs.Tryz
attribute [local simp] List.replicate List.range List.range.loop
variable{e:Ex}{l:List Tok}
theorem zSw{s:RS}(hs:s.at_<=l.length)(k:Nat)(hb:s.bad=true):RdC 204 [I k] l s s exZ:=RdC.intro fun S d i hR=>by
 have ho:=(hR.upd s hs).o
 refine ADet.intro mixed call204 func204 rfl ?_;simp[ntmps204];refine cq ((zAZ s).at hR hs _) ?_;simp[ho,hb]
theorem zb2{s s1:RS}(hs:s.at_<=l.length)(hb:s.bad=false)(xb:isP l s (⟨#[45]⟩:BA) 0=false)(ih:RdC 224 [] l s s1 (exV e)):RdC 204 [I (6:Nat)] l s s1 (exV e):=RdC.intro fun S d i hR=>by
 have ho:=(hR.upd s hs).o
 refine ADet.intro mixed call204 func204 rfl ?_;simp[ntmps204];refine cq ((zAZ s).at hR hs _) ?_;simp[ho,hb];refine cq ((mayW s (⟨#[45]⟩:BA)).at hR hs _) ?_;rw[xb,zIZ xb];simp;refine cq (ih.at hR hs _) ?_;simp
theorem zYW{s s1:RS}(hs:s.at_<=l.length)(hb:s.bad=false)(hi:isP l s (⟨#[110,111,116]⟩:BA) 0=true)(ih:RdC 204 [I (2:Nat)] l (mayP l s (⟨#[110,111,116]⟩:BA)) s1 (exV e)):RdC 204 [I (2:Nat)] l s s1 (exV (ex0 8 0 emS [e] (zBY l s))):=by
 refine RdC.less (r:=.agg [U 8,I 0,Sg emS,Sg emS,Sg emS,nilS,.p (.sl 8 ([e].map Ex.enc)),I (zBY l s)]) (by repeat' constructor) (RdC.intro fun S d i hR=>?_)
 have ho:=(hR.upd s hs).o
 have xa:=zA0 (s:=s) (⟨#[110,111,116]⟩:BA) hs
 refine ADet.intro mixed call204 func204 rfl ?_;simp[ntmps204];refine cq ((zAZ s).at hR hs _) ?_;simp[ho,hb];refine cq ((mayW s (⟨#[110,111,116]⟩:BA)).at hR hs _) ?_;rw[hi];simp;refine cq (ih.at hR xa _) ?_;simp[zg]
theorem zOQ{l:List Tok}{k q:Nat}{rd:RS->Option (Ex × RS)}(Oa:SgOk l q rd):∀(n:Nat) (e:Ex) (s:RS) (e':Ex) (s':RS),s.at_<=l.length->zDV l rd k n e s=some (e',s')->s'.at_<=l.length
 |0,e,s,e',s',hs,h=>by simp[zDV]at h
 |n+1,e,s,e',s',hs,h=>by
  unfold zDV at h;split at h
  .cases h;exact hs
  split at h
  .cases h;exact hs
  rename_i x hx
  have hlt:=(List.getElem?_eq_some_iff.1 hx).1
  split at h
  .cases h;exact hs
  split at h
  .cases h
  rename_i r s1 h1
  have Ma:=(Oa _ _ _ (show(⟨s.at_+1,s.bad,s.full⟩:RS).at_<=l.length from hlt) h1).2
  split at h
  .cases h;exact Ma
  exact zOQ Oa n _ s1 e' s' Ma h
theorem zWR{s s1:RS}(hs:s.at_<=l.length)(ih:RdC 204 [I (0:Nat)] l s s1 (exV e)):RdC 178 [] l s s1 (exV e):=RdC.intro fun S d i hR=>by
 refine ADet.intro mixed call178 func178 rfl ?_;simp[ntmps178];refine cq (ih.at hR hs _) ?_;simp
theorem zKc{l:List Tok}(hl:l.length<=1500):∀(n:Nat),n<=100000->∀(j:Nat),j<=6->SgOk l (6-j) (zAm l n j)
 |0,hn,j,hj=>fun s e s' hs h=>by simp[zAm]at h
 |n+1,hn,0,hj=>fun s e s' hs h=>by
  have ih:=zKc hl n (by omega)
  unfold zAm at h
  cases hb:s.bad with
  |true=>
   rw[hb,if_pos rfl]at h;cases h
   exact⟨(zSw hs 6 hb).less zLw,hs⟩
  |false=>
  rw[hb,if_neg (by simp)]at h
  cases hi:isP l s (⟨#[45]⟩:BA) 0 with
  |true=>
   rw[hi,if_pos rfl]at h
   cases h
  |false=>
   rw[hi,if_neg (by simp)]at h
   have Oa:RdOk l (zAm l n 6):=fun s e s' hs h=>by
    obtain⟨a,b⟩:=ih 6 (by omega) s e s' hs h
    exact⟨zWR hs a,b⟩
   obtain⟨a,b⟩:=smpW (n:=n) (by omega) hl Oa hs h
   exact⟨zb2 hs hb hi a,b⟩
 |n+1,hn,j+1,hj=>fun s e s' hs h=>by
  have ih:=zKc hl n (by omega)
  unfold zAm at h
  cases hb:s.bad with
  |true=>
   rw[hb,if_pos rfl]at h;cases h
   exact⟨(zSw hs _ hb).less zLw,hs⟩
  |false=>
  rw[hb,if_neg (by simp)]at h
  split at h
  .rename_i Lp
   obtain⟨rfl,hi⟩:=Lp
   obtain⟨⟨x,s1⟩,hx,he⟩:=Option.map_eq_some_iff.1 h
   cases he
   obtain⟨a,b⟩:=ih 4 (by omega) _ _ _ (zA0 _ hs) hx
   exact⟨zYW hs hb hi a,b⟩
  rename_i Lp
  split at h
  .cases h
  rename_i e1 s1 h1
  have g:=ih j (by omega)
  have Ma:=(g _ _ _ hs h1).2
  have vd:=zOQ g _ _ _ _ _ Ma h
  refine⟨?_,vd⟩
  rcases(by omega:j=0\/j=1\/j=2\/j=3\/j=4\/j=5)with rfl|rfl|rfl|rfl|rfl|rfl
  .exact zah g hs hb h1 h vd
  .exact zag g hs hb h1 h vd
  .exact zaf g hs hb h1 h vd
  .exact zae g hs hb (by simpa using Lp) h1 h vd
  .exact zad g hs hb h1 h vd
  exact zac g hs hb h1 h vd
theorem zOR(hl:l.length<=1500){n:Nat}(hn:n<=100000):RdOk l (zAm l n 6):=fun s e s' hs h=>by
 obtain⟨a,b⟩:=zKc hl n hn 6 (by omega) s e s' hs h
 exact⟨zWR hs a,b⟩
def BkOk(l:List Tok)(ka:Blk):Prop:=∀s b s',s.at_<=l.length->ka s=some (b,s')->RdC 233 [] l s s' (.p (.sl 15 (b.map St.enc)))/\s'.at_<=l.length
theorem zai{ka:Blk}(Fc:BkOk l ka){s:RS}{b:List St}{s':RS}(hs:s.at_<=l.length)(h:zWQ l ka s=some (b,s')):RdC 230 [] l s s' (.p (.sl 15 (b.map St.enc)))/\s'.at_<=l.length:=by
 have xa:=zk [(⟨#[123]⟩:BA)] _ hs
 obtain⟨iC,vd⟩:=Fc _ _ _ xa h
 refine⟨RdC.intro fun S d i hR=>?_,vd⟩
 refine ADet.intro mixed call230 func230 rfl ?_;simp[ntmps230];refine cq (zDW _ hs hR _ _ _) ?_;simp;refine cq (iC.at hR xa _) ?_;simp
theorem zVb{s s1 s':RS}{b:List St}(hs:s.at_<=l.length)(eC:RdC 178 [] l s s1 (exV e))(Ma:s1.at_<=l.length)(bC:RdC 230 [] l s1 s' (.p (.sl 15 (b.map St.enc))))(vd:s'.at_<=l.length)(hi:isP l s' (⟨#[101,108,115,101]⟩:BA) 0=false):RdC 216 [] l s s' (.agg (stU (st0 6 emS emS [e] b []))):=by
 refine RdC.less (r:=.agg [U 6,Sg emS,Sg emS,nilS,U 0,Sg emS,nilS,I 0,Sg emS,nilS,.p (.sl 8 ([e].map Ex.enc)),.p (.sl 15 (b.map St.enc)),nilS,nilS,I 0]) (by repeat' constructor) (RdC.intro fun S d i hR=>?_)
 refine ADet.intro mixed call216 func216 rfl ?_;simp[ntmps216];refine cq (eC.at hR hs _) ?_;simp;refine cq (bC.at hR Ma _) ?_;simp;refine cq ((mayW s' (⟨#[101,108,115,101]⟩:BA)).at hR vd _) ?_;rw[hi,zIZ hi];simp[zg]
attribute [local simp] List.forall_mem_cons List.contains_cons List.contains_nil List.find?
theorem zb3{s s1 s':RS}(hs:s.at_<=l.length)(hb:s.bad=true)(lC:RdC 229 [] l (zAY l (zBN l s 2) [(⟨#[61]⟩:BA)]) s1 (exV e))(Ma:s1.at_<=l.length)(e1:zAY l s1 [(⟨#[59]⟩:BA)]=s'):RdC 214 [] l s s' (.agg (stU (st0 1 (zAJ l s 2) emS [e] [] []))):=by
 subst e1
 have xa:=z9 (s:=s) 2 hs
 have Pb:=zk [(⟨#[61]⟩:BA)] _ xa
 refine RdC.less (r:=.agg [U 1,Sg (zAJ l s 2),Sg emS,nilS,U 0,Sg emS,nilS,I 0,Sg emS,nilS,.p (.sl 8 ([e].map Ex.enc)),nilS,nilS,nilS,I 0]) (by repeat' constructor) (RdC.intro fun S d i hR=>?_)
 have ho:=(hR.upd s hs).o
 refine ADet.intro mixed call214 func214 rfl ?_;simp[ntmps214];refine dB [] (by kernel_rfl) ?_
 simp[ho,hb];refine cq ((zIA s).at hR hs _) ?_;simp;refine cq (zDW _ xa hR _ _ _) ?_;simp;refine cq (lC.at hR Pb _) ?_;simp;refine cq (zDW _ Ma hR _ _ _) ?_;simp[zg]
theorem zb4{s s1 s':RS}(hs:s.at_<=l.length)(hb:s.bad=false)(hlt:¬(s.at_:Int)<(l.length:Int))(lC:RdC 229 [] l (zAY l (zBN l s 2) [(⟨#[61]⟩:BA)]) s1 (exV e))(Ma:s1.at_<=l.length)(e1:zAY l s1 [(⟨#[59]⟩:BA)]=s'):RdC 214 [] l s s' (.agg (stU (st0 1 (zAJ l s 2) emS [e] [] []))):=by
 subst e1
 have xa:=z9 (s:=s) 2 hs
 have Pb:=zk [(⟨#[61]⟩:BA)] _ xa
 refine RdC.less (r:=.agg [U 1,Sg (zAJ l s 2),Sg emS,nilS,U 0,Sg emS,nilS,I 0,Sg emS,nilS,.p (.sl 8 ([e].map Ex.enc)),nilS,nilS,nilS,I 0]) (by repeat' constructor) (RdC.intro fun S d i hR=>?_)
 have ho:=(hR.upd s hs).o
 refine ADet.intro mixed call214 func214 rfl ?_;simp[ntmps214];refine dB [] (by kernel_rfl) ?_
 simp[ho,hb,hlt];refine cq ((zIA s).at hR hs _) ?_;simp;refine cq (zDW _ xa hR _ _ _) ?_;simp;refine cq (lC.at hR Pb _) ?_;simp;refine cq (zDW _ Ma hR _ _ _) ?_;simp[zg]
theorem zb5{s s1 s':RS}(hs:s.at_<=l.length)(hb:s.bad=false)(hlt:(s.at_:Int)<(l.length:Int)){x:Tok}(hx:l[s.at_]? =some x)(hk:¬x.kind=3)(lC:RdC 229 [] l (zAY l (zBN l s 2) [(⟨#[61]⟩:BA)]) s1 (exV e))(Ma:s1.at_<=l.length)(e1:zAY l s1 [(⟨#[59]⟩:BA)]=s'):RdC 214 [] l s s' (.agg (stU (st0 1 (zAJ l s 2) emS [e] [] []))):=by
 subst e1
 have xa:=z9 (s:=s) 2 hs
 have Pb:=zk [(⟨#[61]⟩:BA)] _ xa
 refine RdC.less (r:=.agg [U 1,Sg (zAJ l s 2),Sg emS,nilS,U 0,Sg emS,nilS,I 0,Sg emS,nilS,.p (.sl 8 ([e].map Ex.enc)),nilS,nilS,nilS,I 0]) (by repeat' constructor) (RdC.intro fun S d i hR=>?_)
 have ho:=(hR.upd s hs).o
 refine ADet.intro mixed call214 func214 rfl ?_;simp[ntmps214];refine dB [] (by kernel_rfl) ?_
 simp[ho,hb,hlt,hx,hk,Tok.enc];refine cq ((zIA s).at hR hs _) ?_;simp;refine cq (zDW _ xa hR _ _ _) ?_;simp;refine cq (lC.at hR Pb _) ?_;simp;refine cq (zDW _ Ma hR _ _ _) ?_;simp[zg]
end Go.Proofs.YtdflkegnmmkkoaaGreatDoor
