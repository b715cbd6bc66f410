/- A part of the proof. -/
import Derived.Test.YtdflkegnmmkkoaaGreatDoorYNRw
set_option linter.unusedVariables false
set_option linter.unusedSimpArgs false
set_option maxRecDepth 100000
set_option maxHeartbeats 32000000
namespace Go.Proofs.YtdflkegnmmkkoaaGreatDoor
open Go.RowKit _root_.Go.Proofs.Tryz
attribute [local simp] List.replicate List.range List.range.loop List.forall_mem_cons List.contains_cons List.contains_nil List.find?
theorem zYK{l:List Tok}{s:RS}{x:Tok}{v:Int}(hs:s.at_<=l.length)(hb:s.bad=false)(hx:l[s.at_]? =some x)(hk:x.kind=4)(h0:numT x.text=some v):RdC 224 [] l s ⟨s.at_+1,s.bad,s.full⟩ (exV (ex0 1 v emS [] x.pos)):=by
 refine RdC.less (r:=.agg [U 1,I v,Sg emS,Sg emS,Sg emS,nilS,nilS,I x.pos]) (by repeat' constructor) (RdC.intro fun S d i hR=>?_)
 have ho:=(hR.upd s hs).o
 have hlt:=(List.getElem?_eq_some_iff.1 hx).1
 have aa:¬(l.length:Int)<=(s.at_:Int):=by omega
 have ab:(s.at_:Int)<(l.length:Int):=by omega
 clear hlt
 have hh:zGl l s 4=true:=by unfold zGl;rw[hb,hx];simp[hk]
 have ht:zAK l s 4=x.text:=by unfold zAK;rw[if_pos hh,hx]
 have hp:zBS l s 4=⟨s.at_+1,s.bad,s.full⟩:=by unfold zBS;rw[if_pos hh]
 have tC:=zHM (l:=l) s 4
 rw[ht,hp]at tC;unfold numT at h0;split at h0
 .rename_i hc
  cases h0
  obtain⟨c1,c2,c3,c4⟩:=hc
  have nC:=fun S=>zV3 x.text c2 c1 (fun b hb=>List.all_eq_true.1 c3 b hb) c4 S
  refine ADet.intro mixed call224 func224 rfl ?_;simp[ntmps224];refine dB [] (by kernel_rfl) ?_
  simp[ho,hb,aa];refine dB [(3,10),(7,10),(9,10)] (by kernel_rfl) ?_
  simp[ho,hx,ab,Tok.enc,hk];refine cq (tC.at hR hs _) ?_;simp;refine cq (nC _) ?_;simp;rw[hb]
 cases h0
theorem zVS{l:List Tok}{s s1:RS}{x:Tok}{op:Int}{e:Ex}(hs:s.at_<=l.length)(hn:l.length<=1500)(hb:s.bad=false)(hx:l[s.at_]? =some x)(k2:¬x.kind=2)(k3:¬x.kind=3)(k4:¬x.kind=4)(hf:zB3 x.text zPs=some op)(cC:RdC 237 [U op,I x.pos] l ⟨s.at_+1,s.bad,s.full⟩ s1 (exV e)):RdC 224 [] l s s1 (exV e):=RdC.intro fun S d i hR=>by
 have ho:=(hR.upd s hs).o
 have hlt:=(List.getElem?_eq_some_iff.1 hx).1
 have aa:¬(l.length:Int)<=(s.at_:Int):=by omega
 have ab:(s.at_:Int)<(l.length:Int):=by omega
 obtain⟨Q,hQ⟩:∃Q,Q=s.at_+1:=⟨_,rfl⟩
 have hw:IntKind.i64.wrap ((s.at_:Int)+1)=(Q:Int):=by rw[hQ];exact zCZ (b:=1) (by unfold maxLen;omega)
 rw[<-hQ]at cC
 have Oe:(⟨Q,s.bad,s.full⟩:RS).at_<=l.length:=by show Q<=_;omega
 have cA:=fun L=>cC.at hR Oe L
 rw[hb]at cA;clear hlt
 obtain⟨j,hj⟩:=z8 x.text zPs 0
 rw[hf,Option.map_some]at hj;refine ADet.intro mixed call224 func224 rfl ?_;simp[ntmps224];refine dB [] (by kernel_rfl) ?_
 simp[ho,hb,aa];refine dB [(3,10),(7,10),(9,10)] (by kernel_rfl) ?_
 simp[ho,hx,ab,Tok.enc,k2,k3,k4];refine dB [(2,0)] (by kernel_rfl) ?_
 simp;refine cq (zaJ _ _) ?_;simp[mapK,hj,ho,hb,hw];refine cq (cA _) ?_;simp
theorem smpW{n:Nat}(hn:n<=100000){l:List Tok}(hl:l.length<=1500){rd:RS->Option (Ex × RS)}(Ma:RdOk l rd){s:RS}{e:Ex}{s':RS}(hs:s.at_<=l.length)(h:zNA l n rd s=some (e,s')):RdC 224 [] l s s' (exV e)/\s'.at_<=l.length:=by
 unfold zNA at h
 cases hb:s.bad with
 |true=>
  rw[hb,if_pos rfl]at h;cases h
  exact⟨(zPn hb).less zL4,hs⟩
 |false=>
 rw[hb,if_neg (by simp)]at h
 cases hx:l[s.at_]? with
 |none=>
  rw[hx]at h;cases h
  have:=List.getElem?_eq_none_iff.1 hx
  exact⟨(zPo hb (by omega)).less zL4,hs⟩
 |some x=>
  rw[hx]at h
  have hlt:=(List.getElem?_eq_some_iff.1 hx).1
  dsimp only at h
  split at h
  .rename_i k4
   obtain⟨v,hv,he⟩:=Option.map_eq_some_iff.1 h
   cases he
   have:=zYK hs hb hx k4 hv
   rw[hb]at this;exact⟨this,hlt⟩
  rename_i k4
  split at h
  .rename_i k3
   unfold zWB at h;cases h
  rename_i k3
  split at h
  .rename_i k2
   split at h
   .cases h
   rename_i hi
   obtain⟨⟨p,s1⟩,hp,he⟩:=Option.map_eq_some_iff.1 h
   cases he;exact⟨zPp hn hs hb hx k2 (by simpa using hi) hp,(zGR hs hp).1⟩
  rename_i k2
  cases hf:zB3 x.text zPs with
  |some op=>
   rw[hf]at h
   dsimp only at h
   rw[<-hb]at h
   obtain⟨a,b⟩:=zYJ hn Ma (s:=⟨s.at_+1,s.bad,s.full⟩) hlt h
   exact⟨zVS hs hl hb hx k2 k3 k4 hf a,b⟩
  |none=>
   rw[hf]at h;cases h
end Go.Proofs.YtdflkegnmmkkoaaGreatDoor
namespace Go.Proofs.YtdflkegnmmkkoaaGreatDoor
open Go.RowKit _root_.Go.Proofs.Tryz
attribute [local simp] List.replicate List.range List.range.loop
variable{e:Ex}{l:List Tok}
theorem zSo{s:RS}(hs:s.at_<=l.length)(k:Nat)(hb:s.bad=true):RdC 204 [I k] l s s exZ:=RdC.intro fun S d i hR=>by
 have ho:=(hR.upd s hs).o
 refine ADet.intro mixed call204 func204 rfl ?_;simp[ntmps204];refine cq ((zAe s).at hR hs _) ?_;simp[ho,hb]
theorem zbe{s s1:RS}(hs:s.at_<=l.length)(hb:s.bad=false)(wb:isP l s (⟨#[45]⟩:BA) 0=false)(ih:RdC 224 [] l s s1 (exV e)):RdC 204 [I (6:Nat)] l s s1 (exV e):=RdC.intro fun S d i hR=>by
 have ho:=(hR.upd s hs).o
 refine ADet.intro mixed call204 func204 rfl ?_;simp[ntmps204];refine cq ((zAe s).at hR hs _) ?_;simp[ho,hb];refine cq ((mayW s (⟨#[45]⟩:BA)).at hR hs _) ?_;rw[wb,zIr wb];simp;refine cq (ih.at hR hs _) ?_;simp
theorem zYL{s s1:RS}(hs:s.at_<=l.length)(hb:s.bad=false)(hi:isP l s (⟨#[110,111,116]⟩:BA) 0=true)(ih:RdC 204 [I (2:Nat)] l (mayP l s (⟨#[110,111,116]⟩:BA)) s1 (exV e)):RdC 204 [I (2:Nat)] l s s1 (exV (ex0 8 0 emS [e] (zBd l s))):=by
 refine RdC.less (r:=.agg [U 8,I 0,Sg emS,Sg emS,Sg emS,nilS,.p (.sl 8 ([e].map Ex.enc)),I (zBd l s)]) (by repeat' constructor) (RdC.intro fun S d i hR=>?_)
 have ho:=(hR.upd s hs).o
 have xa:=zA7 (s:=s) (⟨#[110,111,116]⟩:BA) hs
 refine ADet.intro mixed call204 func204 rfl ?_;simp[ntmps204];refine cq ((zAe s).at hR hs _) ?_;simp[ho,hb];refine cq ((mayW s (⟨#[110,111,116]⟩:BA)).at hR hs _) ?_;rw[hi];simp;refine cq (ih.at hR xa _) ?_;simp[zf]
theorem zOS{l:List Tok}{k q:Nat}{rd:RS->Option (Ex × RS)}(Ma:SgOk l q rd):∀(n:Nat) (e:Ex) (s:RS) (e':Ex) (s':RS),s.at_<=l.length->zDf l rd k n e s=some (e',s')->s'.at_<=l.length
 |0,e,s,e',s',hs,h=>by simp[zDf]at h
 |n+1,e,s,e',s',hs,h=>by
  unfold zDf at h;split at h
  .cases h;exact hs
  split at h
  .cases h;exact hs
  rename_i x hx
  have hlt:=(List.getElem?_eq_some_iff.1 hx).1
  split at h
  .cases h;exact hs
  split at h
  .cases h
  rename_i r s1 h1
  have La:=(Ma _ _ _ (show(⟨s.at_+1,s.bad,s.full⟩:RS).at_<=l.length from hlt) h1).2
  split at h
  .cases h;exact La
  exact zOS Ma n _ s1 e' s' La h
theorem zWD{s s1:RS}(hs:s.at_<=l.length)(ih:RdC 204 [I (0:Nat)] l s s1 (exV e)):RdC 178 [] l s s1 (exV e):=RdC.intro fun S d i hR=>by
 refine ADet.intro mixed call178 func178 rfl ?_;simp[ntmps178];refine cq (ih.at hR hs _) ?_;simp
theorem zKj{l:List Tok}(hl:l.length<=1500):∀(n:Nat),n<=100000->∀(j:Nat),j<=6->SgOk l (6-j) (zAu l n j)
 |0,hn,j,hj=>fun s e s' hs h=>by simp[zAu]at h
 |n+1,hn,0,hj=>fun s e s' hs h=>by
  have ih:=zKj hl n (by omega)
  unfold zAu at h
  cases hb:s.bad with
  |true=>
   rw[hb,if_pos rfl]at h;cases h
   exact⟨(zSo hs 6 hb).less zL4,hs⟩
  |false=>
  rw[hb,if_neg (by simp)]at h
  cases hi:isP l s (⟨#[45]⟩:BA) 0 with
  |true=>
   rw[hi,if_pos rfl]at h
   cases h
  |false=>
   rw[hi,if_neg (by simp)]at h
   have Ma:RdOk l (zAu l n 6):=fun s e s' hs h=>by
    obtain⟨a,b⟩:=ih 6 (by omega) s e s' hs h
    exact⟨zWD hs a,b⟩
   obtain⟨a,b⟩:=smpW (n:=n) (by omega) hl Ma hs h
   exact⟨zbe hs hb hi a,b⟩
 |n+1,hn,j+1,hj=>fun s e s' hs h=>by
  have ih:=zKj hl n (by omega)
  unfold zAu at h
  cases hb:s.bad with
  |true=>
   rw[hb,if_pos rfl]at h;cases h
   exact⟨(zSo hs _ hb).less zL4,hs⟩
  |false=>
  rw[hb,if_neg (by simp)]at h
  split at h
  .rename_i Ip
   obtain⟨rfl,hi⟩:=Ip
   obtain⟨⟨x,s1⟩,hx,he⟩:=Option.map_eq_some_iff.1 h
   cases he
   obtain⟨a,b⟩:=ih 4 (by omega) _ _ _ (zA7 _ hs) hx
   exact⟨zYL hs hb hi a,b⟩
  rename_i Ip
  split at h
  .cases h
  rename_i e1 s1 h1
  have g:=ih j (by omega)
  have La:=(g _ _ _ hs h1).2
  have xd:=zOS g _ _ _ _ _ La h
  refine⟨?_,xd⟩
  rcases(by omega:j=0\/j=1\/j=2\/j=3\/j=4\/j=5)with rfl|rfl|rfl|rfl|rfl|rfl
  .exact zaP g hs hb h1 h xd
  .exact zaO g hs hb h1 h xd
  .exact zaN g hs hb h1 h xd
  .exact zaM g hs hb (by simpa using Ip) h1 h xd
  .exact zaL g hs hb h1 h xd
  exact zaK g hs hb h1 h xd
theorem zOT(hl:l.length<=1500){n:Nat}(hn:n<=100000):RdOk l (zAu l n 6):=fun s e s' hs h=>by
 obtain⟨a,b⟩:=zKj hl n hn 6 (by omega) s e s' hs h
 exact⟨zWD hs a,b⟩
def BkOk(l:List Tok)(ka:Blk):Prop:=∀s b s',s.at_<=l.length->ka s=some (b,s')->RdC 233 [] l s s' (.p (.sl 15 (b.map St.enc)))/\s'.at_<=l.length
theorem zaQ{ka:Blk}(Fc:BkOk l ka){s:RS}{b:List St}{s':RS}(hs:s.at_<=l.length)(h:zWC l ka s=some (b,s')):RdC 230 [] l s s' (.p (.sl 15 (b.map St.enc)))/\s'.at_<=l.length:=by
 have xa:=zm [(⟨#[123]⟩:BA)] _ hs
 obtain⟨iC,xd⟩:=Fc _ _ _ xa h
 refine⟨RdC.intro fun S d i hR=>?_,xd⟩
 refine ADet.intro mixed call230 func230 rfl ?_;simp[ntmps230];refine cq (zDg _ hs hR _ _ _) ?_;simp;refine cq (iC.at hR xa _) ?_;simp
theorem zVT{s s1 s':RS}{b:List St}(hs:s.at_<=l.length)(eC:RdC 178 [] l s s1 (exV e))(La:s1.at_<=l.length)(bC:RdC 230 [] l s1 s' (.p (.sl 15 (b.map St.enc))))(xd:s'.at_<=l.length)(hi:isP l s' (⟨#[101,108,115,101]⟩:BA) 0=false):RdC 216 [] l s s' (.agg (stU (st0 6 emS emS [e] b []))):=by
 refine RdC.less (r:=.agg [U 6,Sg emS,Sg emS,nilS,U 0,Sg emS,nilS,I 0,Sg emS,nilS,.p (.sl 8 ([e].map Ex.enc)),.p (.sl 15 (b.map St.enc)),nilS,nilS,I 0]) (by repeat' constructor) (RdC.intro fun S d i hR=>?_)
 refine ADet.intro mixed call216 func216 rfl ?_;simp[ntmps216];refine cq (eC.at hR hs _) ?_;simp;refine cq (bC.at hR La _) ?_;simp;refine cq ((mayW s' (⟨#[101,108,115,101]⟩:BA)).at hR xd _) ?_;rw[hi,zIr hi];simp[zf]
attribute [local simp] List.forall_mem_cons List.contains_cons List.contains_nil List.find?
theorem zbf{s s1 s':RS}(hs:s.at_<=l.length)(hb:s.bad=true)(lC:RdC 229 [] l (zAd l (zBS l s 2) [(⟨#[61]⟩:BA)]) s1 (exV e))(La:s1.at_<=l.length)(e1:zAd l s1 [(⟨#[59]⟩:BA)]=s'):RdC 214 [] l s s' (.agg (stU (st0 1 (zAK l s 2) emS [e] [] []))):=by
 subst e1
 have xa:=zAC (s:=s) 2 hs
 have Sb:=zm [(⟨#[61]⟩:BA)] _ xa
 refine RdC.less (r:=.agg [U 1,Sg (zAK l s 2),Sg emS,nilS,U 0,Sg emS,nilS,I 0,Sg emS,nilS,.p (.sl 8 ([e].map Ex.enc)),nilS,nilS,nilS,I 0]) (by repeat' constructor) (RdC.intro fun S d i hR=>?_)
 have ho:=(hR.upd s hs).o
 refine ADet.intro mixed call214 func214 rfl ?_;simp[ntmps214];refine dB [] (by kernel_rfl) ?_
 simp[ho,hb];refine cq ((zIR s).at hR hs _) ?_;simp;refine cq (zDg _ xa hR _ _ _) ?_;simp;refine cq (lC.at hR Sb _) ?_;simp;refine cq (zDg _ La hR _ _ _) ?_;simp[zf]
theorem zbg{s s1 s':RS}(hs:s.at_<=l.length)(hb:s.bad=false)(hlt:¬(s.at_:Int)<(l.length:Int))(lC:RdC 229 [] l (zAd l (zBS l s 2) [(⟨#[61]⟩:BA)]) s1 (exV e))(La:s1.at_<=l.length)(e1:zAd l s1 [(⟨#[59]⟩:BA)]=s'):RdC 214 [] l s s' (.agg (stU (st0 1 (zAK l s 2) emS [e] [] []))):=by
 subst e1
 have xa:=zAC (s:=s) 2 hs
 have Sb:=zm [(⟨#[61]⟩:BA)] _ xa
 refine RdC.less (r:=.agg [U 1,Sg (zAK l s 2),Sg emS,nilS,U 0,Sg emS,nilS,I 0,Sg emS,nilS,.p (.sl 8 ([e].map Ex.enc)),nilS,nilS,nilS,I 0]) (by repeat' constructor) (RdC.intro fun S d i hR=>?_)
 have ho:=(hR.upd s hs).o
 refine ADet.intro mixed call214 func214 rfl ?_;simp[ntmps214];refine dB [] (by kernel_rfl) ?_
 simp[ho,hb,hlt];refine cq ((zIR s).at hR hs _) ?_;simp;refine cq (zDg _ xa hR _ _ _) ?_;simp;refine cq (lC.at hR Sb _) ?_;simp;refine cq (zDg _ La hR _ _ _) ?_;simp[zf]
theorem zbh{s s1 s':RS}(hs:s.at_<=l.length)(hb:s.bad=false)(hlt:(s.at_:Int)<(l.length:Int)){x:Tok}(hx:l[s.at_]? =some x)(hk:¬x.kind=3)(lC:RdC 229 [] l (zAd l (zBS l s 2) [(⟨#[61]⟩:BA)]) s1 (exV e))(La:s1.at_<=l.length)(e1:zAd l s1 [(⟨#[59]⟩:BA)]=s'):RdC 214 [] l s s' (.agg (stU (st0 1 (zAK l s 2) emS [e] [] []))):=by
 subst e1
 have xa:=zAC (s:=s) 2 hs
 have Sb:=zm [(⟨#[61]⟩:BA)] _ xa
 refine RdC.less (r:=.agg [U 1,Sg (zAK l s 2),Sg emS,nilS,U 0,Sg emS,nilS,I 0,Sg emS,nilS,.p (.sl 8 ([e].map Ex.enc)),nilS,nilS,nilS,I 0]) (by repeat' constructor) (RdC.intro fun S d i hR=>?_)
 have ho:=(hR.upd s hs).o
 refine ADet.intro mixed call214 func214 rfl ?_;simp[ntmps214];refine dB [] (by kernel_rfl) ?_
 simp[ho,hb,hlt,hx,hk,Tok.enc];refine cq ((zIR s).at hR hs _) ?_;simp;refine cq (zDg _ xa hR _ _ _) ?_;simp;refine cq (lC.at hR Sb _) ?_;simp;refine cq (zDg _ La hR _ _ _) ?_;simp[zf]
end Go.Proofs.YtdflkegnmmkkoaaGreatDoor
