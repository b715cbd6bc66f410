/- A part of the proof. -/
import Derived.Test.YtdflkegnmmkkoaaGreatDoorXNVf
set_option linter.unusedVariables false
set_option linter.unusedSimpArgs false
set_option maxRecDepth 100000
set_option maxHeartbeats 32000000
namespace Go.Proofs.YtdflkegnmmkkoaaGreatDoor
open Go.RowKit _root_.Go.Proofs.Tryz
attribute [local simp] List.replicate List.range List.range.loop List.forall_mem_cons List.contains_cons List.contains_nil List.find?
theorem zZT{l:List Tok}{s:RS}{x:Tok}{v:Int}(hs:s.at_<=l.length)(hb:s.bad=false)(hx:l[s.at_]? =some x)(hk:x.kind=4)(h0:numT x.text=some v):RdC 224 [] l s ⟨s.at_+1,s.bad,s.full⟩ (exV (ex0 1 v emS [] x.pos)):=by
 refine RdC.less (r:=.agg [U 1,I v,Sg emS,Sg emS,Sg emS,nilS,nilS,I x.pos]) (by repeat' constructor) (RdC.intro fun S d i hR=>?_)
 have ho:=(hR.upd s hs).o
 have hlt:=(List.getElem?_eq_some_iff.1 hx).1
 have aa:¬(l.length:Int)<=(s.at_:Int):=by omega
 have ab:(s.at_:Int)<(l.length:Int):=by omega
 clear hlt
 have hh:zGn l s 4=true:=by unfold zGn;rw[hb,hx];simp[hk]
 have ht:zAN l s 4=x.text:=by unfold zAN;rw[if_pos hh,hx]
 have hp:zBO l s 4=⟨s.at_+1,s.bad,s.full⟩:=by unfold zBO;rw[if_pos hh]
 have tC:=zHO (l:=l) s 4
 rw[ht,hp]at tC;unfold numT at h0;split at h0
 .rename_i hc
  cases h0
  obtain⟨c1,c2,c3,c4⟩:=hc
  have nC:=fun S=>zWv x.text c2 c1 (fun b hb=>List.all_eq_true.1 c3 b hb) c4 S
  refine ADet.intro mixed call224 func224 rfl ?_;simp[ntmps224];refine dB [] (by kernel_rfl) ?_
  simp[ho,hb,aa];refine dB [(3,10),(7,10),(9,10)] (by kernel_rfl) ?_
  simp[ho,hx,ab,Tok.enc,hk];refine cq (tC.at hR hs _) ?_;simp;refine cq (nC _) ?_;simp;rw[hb]
 cases h0
theorem zWM{l:List Tok}{s s1:RS}{x:Tok}{op:Int}{e:Ex}(hs:s.at_<=l.length)(hn:l.length<=1500)(hb:s.bad=false)(hx:l[s.at_]? =some x)(k2:¬x.kind=2)(k3:¬x.kind=3)(k4:¬x.kind=4)(hf:zB7 x.text zQD=some op)(cC:RdC 237 [U op,I x.pos] l ⟨s.at_+1,s.bad,s.full⟩ s1 (exV e)):RdC 224 [] l s s1 (exV e):=RdC.intro fun S d i hR=>by
 have ho:=(hR.upd s hs).o
 have hlt:=(List.getElem?_eq_some_iff.1 hx).1
 have aa:¬(l.length:Int)<=(s.at_:Int):=by omega
 have ab:(s.at_:Int)<(l.length:Int):=by omega
 obtain⟨Q,hQ⟩:∃Q,Q=s.at_+1:=⟨_,rfl⟩
 have hw:IntKind.i64.wrap ((s.at_:Int)+1)=(Q:Int):=by rw[hQ];exact zCk (b:=1) (by unfold maxLen;omega)
 rw[<-hQ]at cC
 have Ge:(⟨Q,s.bad,s.full⟩:RS).at_<=l.length:=by show Q<=_;omega
 have cA:=fun L=>cC.at hR Ge L
 rw[hb]at cA;clear hlt
 obtain⟨j,hj⟩:=z7 x.text zQD 0
 rw[hf,Option.map_some]at hj;refine ADet.intro mixed call224 func224 rfl ?_;simp[ntmps224];refine dB [] (by kernel_rfl) ?_
 simp[ho,hb,aa];refine dB [(3,10),(7,10),(9,10)] (by kernel_rfl) ?_
 simp[ho,hx,ab,Tok.enc,k2,k3,k4];refine dB [(2,0)] (by kernel_rfl) ?_
 simp;refine cq (zbg _ _) ?_;simp[mapK,hj,ho,hb,hw];refine cq (cA _) ?_;simp
theorem smpW{n:Nat}(hn:n<=100000){l:List Tok}(hl:l.length<=1500){rd:RS->Option (Ex × RS)}(Na:RdOk l rd){s:RS}{e:Ex}{s':RS}(hs:s.at_<=l.length)(h:zNL l n rd s=some (e,s')):RdC 224 [] l s s' (exV e)/\s'.at_<=l.length:=by
 unfold zNL at h
 cases hb:s.bad with
 |true=>
  rw[hb,if_pos rfl]at h;cases h
  exact⟨(zP7 hb).less zL5,hs⟩
 |false=>
 rw[hb,if_neg (by simp)]at h
 cases hx:l[s.at_]? with
 |none=>
  rw[hx]at h;cases h
  have:=List.getElem?_eq_none_iff.1 hx
  exact⟨(zP8 hb (by omega)).less zL5,hs⟩
 |some x=>
  rw[hx]at h
  have hlt:=(List.getElem?_eq_some_iff.1 hx).1
  dsimp only at h
  split at h
  .rename_i k4
   obtain⟨v,hv,he⟩:=Option.map_eq_some_iff.1 h
   cases he
   have:=zZT hs hb hx k4 hv
   rw[hb]at this;exact⟨this,hlt⟩
  rename_i k4
  split at h
  .rename_i k3
   unfold zXA at h;cases h
  rename_i k3
  split at h
  .rename_i k2
   split at h
   .cases h
   rename_i hi
   obtain⟨⟨p,s1⟩,hp,he⟩:=Option.map_eq_some_iff.1 h
   cases he;exact⟨zP9 hn hs hb hx k2 (by simpa using hi) hp,(zGT hs hp).1⟩
  rename_i k2
  cases hf:zB7 x.text zQD with
  |some op=>
   rw[hf]at h
   dsimp only at h
   rw[<-hb]at h
   obtain⟨a,b⟩:=zZS hn Na (s:=⟨s.at_+1,s.bad,s.full⟩) hlt h
   exact⟨zWM hs hl hb hx k2 k3 k4 hf a,b⟩
  |none=>
   rw[hf]at h;cases h
end Go.Proofs.YtdflkegnmmkkoaaGreatDoor
namespace Go.Proofs.YtdflkegnmmkkoaaGreatDoor
open Go.RowKit _root_.Go.Proofs.Tryz
attribute [local simp] List.replicate List.range List.range.loop
variable{e:Ex}{l:List Tok}{n:Nat}{s:RS}
theorem zTN(hs:s.at_<=l.length)(k:Nat)(hb:s.bad=true):RdC 204 [I k] l s s exZ:=RdC.intro fun S d i hR=>by
 have ho:=(hR.upd s hs).o
 refine ADet.intro mixed call204 func204 rfl ?_;simp[ntmps204];refine cq ((zAb s).at hR hs _) ?_;simp[ho,hb]
theorem zcw{s s1:RS}(hs:s.at_<=l.length)(hb:s.bad=false)(wb:isP l s (⟨#[45]⟩:BA) 0=false)(ih:RdC 224 [] l s s1 (exV e)):RdC 204 [I (6:Nat)] l s s1 (exV e):=RdC.intro fun S d i hR=>by
 have ho:=(hR.upd s hs).o
 refine ADet.intro mixed call204 func204 rfl ?_;simp[ntmps204];refine cq ((zAb s).at hR hs _) ?_;simp[ho,hb];refine cq ((mayW s (⟨#[45]⟩:BA)).at hR hs _) ?_;rw[wb,zIz wb];simp;refine cq (ih.at hR hs _) ?_;simp
theorem zZU{s s1:RS}(hs:s.at_<=l.length)(hb:s.bad=false)(hi:isP l s (⟨#[110,111,116]⟩:BA) 0=true)(ih:RdC 204 [I (2:Nat)] l (mayP l s (⟨#[110,111,116]⟩:BA)) s1 (exV e)):RdC 204 [I (2:Nat)] l s s1 (exV (ex0 8 0 emS [e] (zBd l s))):=by
 refine RdC.less (r:=.agg [U 8,I 0,Sg emS,Sg emS,Sg emS,nilS,.p (.sl 8 ([e].map Ex.enc)),I (zBd l s)]) (by repeat' constructor) (RdC.intro fun S d i hR=>?_)
 have ho:=(hR.upd s hs).o
 have ya:=zA2 (s:=s) (⟨#[110,111,116]⟩:BA) hs
 refine ADet.intro mixed call204 func204 rfl ?_;simp[ntmps204];refine cq ((zAb s).at hR hs _) ?_;simp[ho,hb];refine cq ((mayW s (⟨#[110,111,116]⟩:BA)).at hR hs _) ?_;rw[hi];simp;refine cq (ih.at hR ya _) ?_;simp[zm]
theorem zOh{l:List Tok}{k q:Nat}{rd:RS->Option (Ex × RS)}(Na:SgOk l q rd):∀(n:Nat) (e:Ex) (s:RS) (e':Ex) (s':RS),s.at_<=l.length->zDg l rd k n e s=some (e',s')->s'.at_<=l.length
 |0,e,s,e',s',hs,h=>by simp[zDg]at h
 |n+1,e,s,e',s',hs,h=>by
  unfold zDg at h;split at h
  .cases h;exact hs
  split at h
  .cases h;exact hs
  rename_i x hx
  have hlt:=(List.getElem?_eq_some_iff.1 hx).1
  split at h
  .cases h;exact hs
  split at h
  .cases h
  rename_i r s1 h1
  have La:=(Na _ _ _ (show(⟨s.at_+1,s.bad,s.full⟩:RS).at_<=l.length from hlt) h1).2
  split at h
  .cases h;exact La
  exact zOh Na n _ s1 e' s' La h
theorem zXC{s s1:RS}(hs:s.at_<=l.length)(ih:RdC 204 [I (0:Nat)] l s s1 (exV e)):RdC 178 [] l s s1 (exV e):=RdC.intro fun S d i hR=>by
 refine ADet.intro mixed call178 func178 rfl ?_;simp[ntmps178];refine cq (ih.at hR hs _) ?_;simp
theorem zKw{l:List Tok}(hl:l.length<=1500):∀(n:Nat),n<=100000->∀(j:Nat),j<=6->SgOk l (6-j) (zAn l n j)
 |0,hn,j,hj=>fun s e s' hs h=>by simp[zAn]at h
 |n+1,hn,0,hj=>fun s e s' hs h=>by
  have ih:=zKw hl n (by omega)
  unfold zAn at h
  cases hb:s.bad with
  |true=>
   rw[hb,if_pos rfl]at h;cases h
   exact⟨(zTN hs 6 hb).less zL5,hs⟩
  |false=>
  rw[hb,if_neg (by simp)]at h
  cases hi:isP l s (⟨#[45]⟩:BA) 0 with
  |true=>
   rw[hi,if_pos rfl]at h
   cases h
  |false=>
   rw[hi,if_neg (by simp)]at h
   have Na:RdOk l (zAn l n 6):=fun s e s' hs h=>by
    obtain⟨a,b⟩:=ih 6 (by omega) s e s' hs h
    exact⟨zXC hs a,b⟩
   obtain⟨a,b⟩:=smpW (n:=n) (by omega) hl Na hs h
   exact⟨zcw hs hb hi a,b⟩
 |n+1,hn,j+1,hj=>fun s e s' hs h=>by
  have ih:=zKw hl n (by omega)
  unfold zAn at h
  cases hb:s.bad with
  |true=>
   rw[hb,if_pos rfl]at h;cases h
   exact⟨(zTN hs _ hb).less zL5,hs⟩
  |false=>
  rw[hb,if_neg (by simp)]at h
  split at h
  .rename_i iq
   obtain⟨rfl,hi⟩:=iq
   obtain⟨⟨x,s1⟩,hx,he⟩:=Option.map_eq_some_iff.1 h
   cases he
   obtain⟨a,b⟩:=ih 4 (by omega) _ _ _ (zA2 _ hs) hx
   exact⟨zZU hs hb hi a,b⟩
  rename_i iq
  split at h
  .cases h
  rename_i e1 s1 h1
  have g:=ih j (by omega)
  have La:=(g _ _ _ hs h1).2
  have Qc:=zOh g _ _ _ _ _ La h
  refine⟨?_,Qc⟩
  rcases(by omega:j=0\/j=1\/j=2\/j=3\/j=4\/j=5)with rfl|rfl|rfl|rfl|rfl|rfl
  .exact zbm g hs hb h1 h Qc
  .exact zbl g hs hb h1 h Qc
  .exact zbk g hs hb h1 h Qc
  .exact zbj g hs hb (by simpa using iq) h1 h Qc
  .exact zbi g hs hb h1 h Qc
  exact zbh g hs hb h1 h Qc
theorem zOi(hl:l.length<=1500)(hn:n<=100000):RdOk l (zAn l n 6):=fun s e s' hs h=>by
 obtain⟨a,b⟩:=zKw hl n hn 6 (by omega) s e s' hs h
 exact⟨zXC hs a,b⟩
def BkOk(l:List Tok)(ka:Blk):Prop:=∀s b s',s.at_<=l.length->ka s=some (b,s')->RdC 233 [] l s s' (.p (.sl 15 (b.map St.enc)))/\s'.at_<=l.length
theorem zbn{ka:Blk}(Ec:BkOk l ka){b:List St}{s':RS}(hs:s.at_<=l.length)(h:zXB l ka s=some (b,s')):RdC 230 [] l s s' (.p (.sl 15 (b.map St.enc)))/\s'.at_<=l.length:=by
 have ya:=zk [(⟨#[123]⟩:BA)] _ hs
 obtain⟨iC,Qc⟩:=Ec _ _ _ ya h
 refine⟨RdC.intro fun S d i hR=>?_,Qc⟩
 refine ADet.intro mixed call230 func230 rfl ?_;simp[ntmps230];refine cq (zDh _ hs hR _ _ _) ?_;simp;refine cq (iC.at hR ya _) ?_;simp
theorem zWN{s s1 s':RS}{b:List St}(hs:s.at_<=l.length)(eC:RdC 178 [] l s s1 (exV e))(La:s1.at_<=l.length)(bC:RdC 230 [] l s1 s' (.p (.sl 15 (b.map St.enc))))(Qc:s'.at_<=l.length)(hi:isP l s' (⟨#[101,108,115,101]⟩:BA) 0=false):RdC 216 [] l s s' (.agg (stU (st0 6 emS emS [e] b []))):=by
 refine RdC.less (r:=.agg [U 6,Sg emS,Sg emS,nilS,U 0,Sg emS,nilS,I 0,Sg emS,nilS,.p (.sl 8 ([e].map Ex.enc)),.p (.sl 15 (b.map St.enc)),nilS,nilS,I 0]) (by repeat' constructor) (RdC.intro fun S d i hR=>?_)
 refine ADet.intro mixed call216 func216 rfl ?_;simp[ntmps216];refine cq (eC.at hR hs _) ?_;simp;refine cq (bC.at hR La _) ?_;simp;refine cq ((mayW s' (⟨#[101,108,115,101]⟩:BA)).at hR Qc _) ?_;rw[hi,zIz hi];simp[zm]
attribute [local simp] List.forall_mem_cons List.contains_cons List.contains_nil List.find?
theorem zcx{s s1 s':RS}(hs:s.at_<=l.length)(hb:s.bad=true)(lC:RdC 229 [] l (zAa l (zBO l s 2) [(⟨#[61]⟩:BA)]) s1 (exV e))(La:s1.at_<=l.length)(e1:zAa l s1 [(⟨#[59]⟩:BA)]=s'):RdC 214 [] l s s' (.agg (stU (st0 1 (zAN l s 2) emS [e] [] []))):=by
 subst e1
 have ya:=zAF (s:=s) 2 hs
 have Ob:=zk [(⟨#[61]⟩:BA)] _ ya
 refine RdC.less (r:=.agg [U 1,Sg (zAN l s 2),Sg emS,nilS,U 0,Sg emS,nilS,I 0,Sg emS,nilS,.p (.sl 8 ([e].map Ex.enc)),nilS,nilS,nilS,I 0]) (by repeat' constructor) (RdC.intro fun S d i hR=>?_)
 have ho:=(hR.upd s hs).o
 refine ADet.intro mixed call214 func214 rfl ?_;simp[ntmps214];refine dB [] (by kernel_rfl) ?_
 simp[ho,hb];refine cq ((zIV s).at hR hs _) ?_;simp;refine cq (zDh _ ya hR _ _ _) ?_;simp;refine cq (lC.at hR Ob _) ?_;simp;refine cq (zDh _ La hR _ _ _) ?_;simp[zm]
theorem zcy{s s1 s':RS}(hs:s.at_<=l.length)(hb:s.bad=false)(hlt:¬(s.at_:Int)<(l.length:Int))(lC:RdC 229 [] l (zAa l (zBO l s 2) [(⟨#[61]⟩:BA)]) s1 (exV e))(La:s1.at_<=l.length)(e1:zAa l s1 [(⟨#[59]⟩:BA)]=s'):RdC 214 [] l s s' (.agg (stU (st0 1 (zAN l s 2) emS [e] [] []))):=by
 subst e1
 have ya:=zAF (s:=s) 2 hs
 have Ob:=zk [(⟨#[61]⟩:BA)] _ ya
 refine RdC.less (r:=.agg [U 1,Sg (zAN l s 2),Sg emS,nilS,U 0,Sg emS,nilS,I 0,Sg emS,nilS,.p (.sl 8 ([e].map Ex.enc)),nilS,nilS,nilS,I 0]) (by repeat' constructor) (RdC.intro fun S d i hR=>?_)
 have ho:=(hR.upd s hs).o
 refine ADet.intro mixed call214 func214 rfl ?_;simp[ntmps214];refine dB [] (by kernel_rfl) ?_
 simp[ho,hb,hlt];refine cq ((zIV s).at hR hs _) ?_;simp;refine cq (zDh _ ya hR _ _ _) ?_;simp;refine cq (lC.at hR Ob _) ?_;simp;refine cq (zDh _ La hR _ _ _) ?_;simp[zm]
theorem zcz{s s1 s':RS}(hs:s.at_<=l.length)(hb:s.bad=false)(hlt:(s.at_:Int)<(l.length:Int)){x:Tok}(hx:l[s.at_]? =some x)(hk:¬x.kind=3)(lC:RdC 229 [] l (zAa l (zBO l s 2) [(⟨#[61]⟩:BA)]) s1 (exV e))(La:s1.at_<=l.length)(e1:zAa l s1 [(⟨#[59]⟩:BA)]=s'):RdC 214 [] l s s' (.agg (stU (st0 1 (zAN l s 2) emS [e] [] []))):=by
 subst e1
 have ya:=zAF (s:=s) 2 hs
 have Ob:=zk [(⟨#[61]⟩:BA)] _ ya
 refine RdC.less (r:=.agg [U 1,Sg (zAN l s 2),Sg emS,nilS,U 0,Sg emS,nilS,I 0,Sg emS,nilS,.p (.sl 8 ([e].map Ex.enc)),nilS,nilS,nilS,I 0]) (by repeat' constructor) (RdC.intro fun S d i hR=>?_)
 have ho:=(hR.upd s hs).o
 refine ADet.intro mixed call214 func214 rfl ?_;simp[ntmps214];refine dB [] (by kernel_rfl) ?_
 simp[ho,hb,hlt,hx,hk,Tok.enc];refine cq ((zIV s).at hR hs _) ?_;simp;refine cq (zDh _ ya hR _ _ _) ?_;simp;refine cq (lC.at hR Ob _) ?_;simp;refine cq (zDh _ La hR _ _ _) ?_;simp[zm]
theorem ADet.lessTq{P:Program}{F:FuncId}{xs:List AV}{S S':ASt}{l l':List AV}(ta:LeAs l l')(h:ADet P F xs S (.tup l) S'):ADet P F xs S (.tup l') S':=
 ⟨h.1,fun Pr φ ys w da hR hne=>(h.2 Pr φ ys w da hR hne).mono fun e w' hp=>by
  obtain⟨x,Pr',φ',h1,h2,h3,h4⟩:=hp
  refine⟨x,Pr',φ',h1,h2,h3,?_⟩
  cases h4 with
  |tup k1 k2=>
   obtain⟨hl,hk⟩:=(zEE (Pr:=Pr') (φ:=φ')).2 ta
   exact .tup (hl ▸ k1) fun j c y hc hy=>by
    obtain⟨v,m1,m2⟩:=hk j c hc
    exact m2 (k2 j v y m1 hy)⟩
theorem RdC.lessT'{F:Nat}{args:List AV}{s s':RS}{a b:List AV}(ta:LeAs a b)(h:RdC F args l s s' (.tup a)):RdC F args l s s' (.tup b):=fun S d i hR=>ADet.lessTq ta (h S d i hR)
abbrev stP(st:St)(pos:Int):AV:=.agg [U st.op,Sg st.name,Sg st.u2,.p (strs st.names),U st.type.kind,Sg st.type.name,.p (.sl 3 (st.type.args.map Ty.enc)),I st.int,Sg st.place.name,.p (strs st.place.path),.p (.sl 8 (st.u3.map Ex.enc)),.p (.sl 15 (st.body.map St.enc)),.p (.sl 15 (st.els.map St.enc)),.p (.sl 3 (st.arms.map Ar.enc)),I pos]
def zHQ(w:BA)(K:Nat):Prop:=∀d i:Nat,∃j,zAm .string (.string w) ((zDR d i).map fun x=>(.string x.1,.fn (.func x.2) [.ptr d i 0] [])) 0=some (some (j,.fn (.func K) [.ptr d i 0] []))
theorem zbo{w:BA}(h0:sEq w (⟨#[108,101,116]⟩:BA)=true):zHQ w 214:=fun d i=>by
 simp only[zDR,List.map_cons,List.map_nil,zj,h0,Bool.false_eq_true,if_false,if_true];exact⟨_,rfl⟩
theorem zbp{w:BA}(h0:sEq w (⟨#[108,101,116]⟩:BA)=false)(h1:sEq w (⟨#[100,114,111,112]⟩:BA)=true):zHQ w 215:=fun d i=>by
 simp only[zDR,List.map_cons,List.map_nil,zj,h0,h1,Bool.false_eq_true,if_false,if_true];exact⟨_,rfl⟩
theorem zbq{w:BA}(h0:sEq w (⟨#[108,101,116]⟩:BA)=false)(h1:sEq w (⟨#[100,114,111,112]⟩:BA)=false)(h2:sEq w (⟨#[105,102]⟩:BA)=true):zHQ w 216:=fun d i=>by
 simp only[zDR,List.map_cons,List.map_nil,zj,h0,h1,h2,Bool.false_eq_true,if_false,if_true];exact⟨_,rfl⟩
theorem zbr{w:BA}(h0:sEq w (⟨#[108,101,116]⟩:BA)=false)(h1:sEq w (⟨#[100,114,111,112]⟩:BA)=false)(h2:sEq w (⟨#[105,102]⟩:BA)=false)(h3:sEq w (⟨#[119,104,105,108,101]⟩:BA)=true):zHQ w 217:=fun d i=>by
 simp only[zDR,List.map_cons,List.map_nil,zj,h0,h1,h2,h3,Bool.false_eq_true,if_false,if_true];exact⟨_,rfl⟩
theorem zbs{w:BA}(h0:sEq w (⟨#[108,101,116]⟩:BA)=false)(h1:sEq w (⟨#[100,114,111,112]⟩:BA)=false)(h2:sEq w (⟨#[105,102]⟩:BA)=false)(h3:sEq w (⟨#[119,104,105,108,101]⟩:BA)=false)(h4:sEq w (⟨#[109,97,116,99,104]⟩:BA)=true):zHQ w 218:=fun d i=>by
 simp only[zDR,List.map_cons,List.map_nil,zj,h0,h1,h2,h3,h4,Bool.false_eq_true,if_false,if_true];exact⟨_,rfl⟩
theorem zbt{w:BA}(h0:sEq w (⟨#[108,101,116]⟩:BA)=false)(h1:sEq w (⟨#[100,114,111,112]⟩:BA)=false)(h2:sEq w (⟨#[105,102]⟩:BA)=false)(h3:sEq w (⟨#[119,104,105,108,101]⟩:BA)=false)(h4:sEq w (⟨#[109,97,116,99,104]⟩:BA)=false)(h5:sEq w (⟨#[115,99,111,112,101]⟩:BA)=true):zHQ w 219:=fun d i=>by
 simp only[zDR,List.map_cons,List.map_nil,zj,h0,h1,h2,h3,h4,h5,Bool.false_eq_true,if_false,if_true];exact⟨_,rfl⟩
theorem zbu{w:BA}(h0:sEq w (⟨#[108,101,116]⟩:BA)=false)(h1:sEq w (⟨#[100,114,111,112]⟩:BA)=false)(h2:sEq w (⟨#[105,102]⟩:BA)=false)(h3:sEq w (⟨#[119,104,105,108,101]⟩:BA)=false)(h4:sEq w (⟨#[109,97,116,99,104]⟩:BA)=false)(h5:sEq w (⟨#[115,99,111,112,101]⟩:BA)=false)(h6:sEq w (⟨#[115,112,97,119,110]⟩:BA)=true):zHQ w 220:=fun d i=>by
 simp only[zDR,List.map_cons,List.map_nil,zj,h0,h1,h2,h3,h4,h5,h6,Bool.false_eq_true,if_false,if_true];exact⟨_,rfl⟩
theorem zbv{w:BA}(h0:sEq w (⟨#[108,101,116]⟩:BA)=false)(h1:sEq w (⟨#[100,114,111,112]⟩:BA)=false)(h2:sEq w (⟨#[105,102]⟩:BA)=false)(h3:sEq w (⟨#[119,104,105,108,101]⟩:BA)=false)(h4:sEq w (⟨#[109,97,116,99,104]⟩:BA)=false)(h5:sEq w (⟨#[115,99,111,112,101]⟩:BA)=false)(h6:sEq w (⟨#[115,112,97,119,110]⟩:BA)=false)(h7:sEq w (⟨#[108,111,99,107]⟩:BA)=true):zHQ w 221:=fun d i=>by
 simp only[zDR,List.map_cons,List.map_nil,zj,h0,h1,h2,h3,h4,h5,h6,h7,Bool.false_eq_true,if_false,if_true];exact⟨_,rfl⟩
theorem zbw{w:BA}(h0:sEq w (⟨#[108,101,116]⟩:BA)=false)(h1:sEq w (⟨#[100,114,111,112]⟩:BA)=false)(h2:sEq w (⟨#[105,102]⟩:BA)=false)(h3:sEq w (⟨#[119,104,105,108,101]⟩:BA)=false)(h4:sEq w (⟨#[109,97,116,99,104]⟩:BA)=false)(h5:sEq w (⟨#[115,99,111,112,101]⟩:BA)=false)(h6:sEq w (⟨#[115,112,97,119,110]⟩:BA)=false)(h7:sEq w (⟨#[108,111,99,107]⟩:BA)=false)(h8:sEq w (⟨#[99,104,97,110]⟩:BA)=true):zHQ w 222:=fun d i=>by
 simp only[zDR,List.map_cons,List.map_nil,zj,h0,h1,h2,h3,h4,h5,h6,h7,h8,Bool.false_eq_true,if_false,if_true];exact⟨_,rfl⟩
theorem zbx{w:BA}(h0:sEq w (⟨#[108,101,116]⟩:BA)=false)(h1:sEq w (⟨#[100,114,111,112]⟩:BA)=false)(h2:sEq w (⟨#[105,102]⟩:BA)=false)(h3:sEq w (⟨#[119,104,105,108,101]⟩:BA)=false)(h4:sEq w (⟨#[109,97,116,99,104]⟩:BA)=false)(h5:sEq w (⟨#[115,99,111,112,101]⟩:BA)=false)(h6:sEq w (⟨#[115,112,97,119,110]⟩:BA)=false)(h7:sEq w (⟨#[108,111,99,107]⟩:BA)=false)(h8:sEq w (⟨#[99,104,97,110]⟩:BA)=false)(h9:sEq w (⟨#[123]⟩:BA)=true):zHQ w 223:=fun d i=>by
 simp only[zDR,List.map_cons,List.map_nil,zj,h0,h1,h2,h3,h4,h5,h6,h7,h8,h9,Bool.false_eq_true,if_false,if_true];exact⟨_,rfl⟩
theorem zQF{s s1:RS}{x:Tok}{K:Nat}{st:St}(hs:s.at_<=l.length)(hn:l.length<=1500)(hb:s.bad=false)(hx:l[s.at_]? =some x)(hK:zHQ x.text K)(kC:RdC K [] l ⟨s.at_+1,s.bad,s.full⟩ s1 (.agg (stU st))):RdC 176 [] l s s1 (.tup [stP st x.pos,B true]):=RdC.intro fun S d i hR=>by
 have ho:=(hR.upd s hs).o
 have hlt:=(List.getElem?_eq_some_iff.1 hx).1
 have aa:¬(l.length:Int)<=(s.at_:Int):=by omega
 have ab:(s.at_:Int)<(l.length:Int):=by omega
 have Ma:=zC2 hx
 obtain⟨Q,hQ⟩:∃Q,Q=s.at_+1:=⟨_,rfl⟩
 have hw:IntKind.i64.wrap ((s.at_:Int)+1)=(Q:Int):=by rw[hQ];exact zCk (b:=1) (by unfold maxLen;omega)
 rw[<-hQ]at kC
 have Ge:(⟨Q,s.bad,s.full⟩:RS).at_<=l.length:=by show Q<=_;omega
 have cA:=fun L=>kC.at hR Ge L
 rw[hb]at cA;clear hlt
 obtain⟨j,hj⟩:=hK (d+1) i
 refine ADet.intro mixed call176 func176 rfl ?_;simp[ntmps176];refine dB [] (by kernel_rfl) ?_
 simp[ho,hb,aa];refine dB [(5,1),(9,1),(12,1)] (by kernel_rfl) ?_
 simp[ho,hb,aa];refine cq (zS7 _ _ _ _) ?_;simp[ho,hb,ab,hx,Tok.enc,mapS,hj];refine cq ((zAb s).at hR hs _) ?_;rw[Ma];simp[ho,hb,hw];refine cq (cA _) ?_;simp
theorem zNO{s s1 s2 s':RS}{x:Tok}{p:Pl}(hs:s.at_<=l.length)(hb:s.bad=false)(hx:l[s.at_]? =some x)(hk:x.kind=2)(hi:isP l s (⟨#[40]⟩:BA) 1=false)(pC:RdC 203 [] l s s1 (plV p))(La:s1.at_<=l.length)(wa:s1.bad=false)(hq:isP l s1 (⟨#[61]⟩:BA) 0=true)(eC:RdC 178 [] l (mayP l s1 (⟨#[61]⟩:BA)) s2 (exV e))(Ra:s2.at_<=l.length)(e1:zAa l s2 [(⟨#[59]⟩:BA)]=s'):RdC 177 [] l s s' (.tup [.agg (stU (.mk 3 emS emS [] zLn 0 p [e] [] [] [] x.pos)),B true]):=by
 subst e1;refine RdC.lessT' (a:=[.agg [U 3,Sg emS,Sg emS,nilS,U 0,Sg emS,nilS,I 0,Sg p.name,.p (strs p.path),.p (.sl 8 ([e].map Ex.enc)),nilS,nilS,nilS,I x.pos],B true]) (.cons (by repeat' constructor) (.cons (.refl _) (.refl _))) (RdC.intro fun S d i hR=>?_)
 have ho:=(hR.upd s hs).o
 have hlt:=(List.getElem?_eq_some_iff.1 hx).1
 have aa:¬(l.length:Int)<=(s.at_:Int):=by omega
 have ab:(s.at_:Int)<(l.length:Int):=by omega
 clear hlt
 have Ma:=zC2 hx
 have ya:=zA2 (s:=s1) (⟨#[61]⟩:BA) La
 have iC:=fun L=>isC ((hR.upd s hs).push L) (⟨#[40]⟩:BA) 1 (by omega)
 rw[hi]at iC
 have nc:=(hR.upd s1 La).o
 refine ADet.intro mixed call177 func177 rfl ?_;simp[ntmps177,ho];refine cq ((zAb s).at hR hs _) ?_;rw[Ma];simp;refine dB [] (by kernel_rfl) ?_
 simp[ho,hb,aa,ab,hx,Tok.enc,hk];refine cq (iC _) ?_;simp;refine cq (pC.at hR hs _) ?_;simp[nc,wa];refine cq ((mayW s1 (⟨#[61]⟩:BA)).at hR La _) ?_;rw[hq];simp;refine cq (eC.at hR ya _) ?_;simp;refine cq (zDh _ Ra hR _ _ _) ?_;simp[zm]
def zZV(l:List Tok)(s s':RS):Option St->Prop
 |some st=>RdC 177 [] l s s' (.tup [.agg (stU st),B true])
 |none=>s'=s/\∃nm q pos,RdC 177 [] l s s (.tup [stAs nm (.p q) pos,B false])
def zXD(l:List Tok)(s s':RS):Option St->Prop
 |some st=>RdC 176 [] l s s' (.tup [.agg (stU st),B true])
 |none=>s'=s/\RdC 176 [] l s s (.tup [stZ,B false])
theorem zWO(hn:n<=100000){ex:RS->Option (Ex × RS)}(va:RdOk l ex){r:Option St}{s':RS}(hs:s.at_<=l.length)(hb:s.bad=false)(h:zNN l n ex s=some (r,s')):s'.at_<=l.length/\zZV l s s' r:=by
 unfold zNN at h;rw[hb,if_neg (by simp)]at h
 cases hx:l[s.at_]? with
 |none=>
  rw[hx]at h;cases h
  have:=List.getElem?_eq_none_iff.1 hx
  exact⟨hs,rfl,_,_,_,zQB hs hb (by omega)⟩
 |some x=>
  rw[hx]at h
  dsimp only at h
  split at h
  .rename_i hk
   split at h
   .cases h
   rename_i p s1 hp
   have La:=(zGT hs hp).1
   split at h
   .rename_i hq
    obtain⟨⟨e,s2⟩,he,h2⟩:=Option.map_eq_some_iff.1 h
    cases h2
    obtain⟨eC,Ra⟩:=va _ _ _ (zA2 _ La) he
    exact⟨zk _ _ Ra,zNO hs hb hx hk.1 hk.2 (zS6 hn hs hp) La hq.1 hq.2 eC Ra rfl⟩
   rename_i hne
   cases h;refine⟨hs,rfl,_,_,_,zNI hn hs hb hx hk.1 hk.2 hp ?_⟩
   cases wa:s1.bad with
   |true=>exact .inl rfl
   |false=>exact .inr ⟨rfl,by simpa [wa]using hne⟩
  rename_i hk
  cases h;refine⟨hs,rfl,?_⟩
  by_cases Vg:x.kind=2
  .exact⟨_,_,_,zNH hs hb hx Vg (by simpa [Vg]using hk)⟩
  exact⟨_,_,_,zNG hs hb hx Vg⟩
def KOk(l:List Tok)(K:Nat)(rd:RS->Option (St × RS)):Prop:=∀s st s',s.at_<=l.length->rd s=some (st,s')->RdC K [] l s s' (.agg (stU st))/\s'.at_<=l.length
theorem letK(hn:n<=100000){ex:RS->Option (Ex × RS)}(va:RdOk l ex):KOk l 214 (letQ l n ex):=fun s st s' hs h=>by
 unfold letQ at h
 cases hh:zGn l s 3 with
 |true=>
  rw[hh,if_pos rfl]at h
  cases h
 |false=>
  rw[hh,if_neg (by simp)]at h
  obtain⟨⟨e,s1⟩,he,h2⟩:=Option.map_eq_some_iff.1 h
  cases h2
  obtain⟨lC,La⟩:=zcv hn va (zk [(⟨#[61]⟩:BA)] _ (zAF (s:=s) 2 hs)) he
  refine⟨?_,zk _ _ La⟩
  rcases zEQ hh with hb|⟨hb,hlt⟩|⟨hb,hlt,x,hx,hk⟩
  .exact zcx hs hb lC La rfl
  .exact zcy hs hb hlt lC La rfl
  exact zcz hs hb hlt hx hk lC La rfl
theorem zc0:KOk l 215 (zZP l):=fun s st s' hs h=>by
 unfold zZP at h;cases h
theorem zZW{ex:RS->Option (Ex × RS)}(va:RdOk l ex){ka:Blk}(Ec:BkOk l ka):KOk l 216 (zNM l ex ka):=fun s st s' hs h=>by
 unfold zNM at h;split at h
 .cases h
 rename_i e s1 he
 obtain⟨eC,La⟩:=va _ _ _ hs he
 split at h
 .cases h
 rename_i b s2 si
 obtain⟨bC,Ra⟩:=zbn Ec La si
 cases hi:isP l s2 (⟨#[101,108,115,101]⟩:BA) 0 with
 |true=>
  rw[hi,if_pos rfl]at h
  cases h
 |false=>
  rw[hi,if_neg (by simp)]at h
  cases h;exact⟨zWN hs eC La bC Ra hi,Ra⟩
theorem zby{ex:RS->Option (Ex × RS)}(va:RdOk l ex){ka:Blk}(Ec:BkOk l ka):KOk l 217 (zTH l ex ka):=fun s st s' hs h=>by
 unfold zTH at h;cases h
theorem zbz{ka:Blk}(Ec:BkOk l ka):KOk l 219 (zTI l ka):=fun s st s' hs h=>by
 unfold zTI at h;cases h
theorem zb0{ka:Blk}(Ec:BkOk l ka):KOk l 223 (zTJ ka):=fun s st s' hs h=>by
 unfold zTJ at h;cases h
theorem zc1(hn:n<=100000){ka:Blk}(Ec:BkOk l ka):KOk l 221 (zZQ l n ka):=fun s st s' hs h=>by
 unfold zZQ at h;cases h
theorem zb1(hn:n<=100000){ka:Blk}(Ec:BkOk l ka):KOk l 218 (zTK l n ka):=fun s st s' hs h=>by
 unfold zTK at h;cases h
theorem zb2(hn:n<=100000){ex:RS->Option (Ex × RS)}(va:RdOk l ex){ka:Blk}(Ec:BkOk l ka):KOk l 220 (zTL l n ex ka):=fun s st s' hs h=>by
 unfold zTL at h;cases h
theorem zc2:KOk l 222 (zZR l n):=fun s st s' hs h=>by
 unfold zZR at h;cases h
theorem zTO(hn:n<=100000)(hl:l.length<=1500){ex:RS->Option (Ex × RS)}(va:RdOk l ex){ka:Blk}(Ec:BkOk l ka){r:Option St}{s':RS}(hs:s.at_<=l.length)(hb:s.bad=false)(h:zTM l n ex ka s=some (r,s')):s'.at_<=l.length/\zXD l s s' r:=by
 unfold zTM at h;rw[hb,if_neg (by simp)]at h
 cases hx:l[s.at_]? with
 |none=>
  rw[hx]at h;cases h
  have:=List.getElem?_eq_none_iff.1 hx
  exact⟨hs,rfl,zS9 hs hb (by omega)⟩
 |some x=>
  rw[hx]at h
  have hlt:=(List.getElem?_eq_some_iff.1 hx).1
  dsimp only at h
  have key:∀{K:Nat} {rd:RS->Option (St × RS)},zHQ x.text K->KOk l K rd->zGZ l n ex ka x.text ⟨s.at_+1,s.bad,s.full⟩=some (rd ⟨s.at_+1,s.bad,s.full⟩)->s'.at_<=l.length/\zXD l s s' r:=by
   intro K rd hK Na hw;rw[<-hb,hw]at h
   cases hr:rd ⟨s.at_+1,s.bad,s.full⟩with
   |none=>rw[hr]at h;cases h
   |some y=>
    obtain⟨st,s1⟩:=y
    rw[hr]at h;cases h
    obtain⟨kC,La⟩:=Na _ _ _ (show(⟨s.at_+1,s.bad,s.full⟩:RS).at_<=l.length from hlt) hr
    exact⟨La,zQF (st:=st) hs hl hb hx hK kC⟩
  cases h0:sEq x.text (⟨#[108,101,116]⟩:BA)with
  |true=>exact key (zbo h0) (letK hn va) (by unfold zGZ;simp only[h0,Bool.false_eq_true,if_false,if_true];try rfl)
  |false=>
  cases h1:sEq x.text (⟨#[100,114,111,112]⟩:BA)with
  |true=>exact key (zbp h0 h1) (zc0) (by unfold zGZ;simp only[h0,h1,Bool.false_eq_true,if_false,if_true];try rfl)
  |false=>
  cases h2:sEq x.text (⟨#[105,102]⟩:BA)with
  |true=>exact key (zbq h0 h1 h2) (zZW va Ec) (by unfold zGZ;simp only[h0,h1,h2,Bool.false_eq_true,if_false,if_true];try rfl)
  |false=>
  cases h3:sEq x.text (⟨#[119,104,105,108,101]⟩:BA)with
  |true=>exact key (zbr h0 h1 h2 h3) (zby va Ec) (by unfold zGZ;simp only[h0,h1,h2,h3,Bool.false_eq_true,if_false,if_true];try rfl)
  |false=>
  cases h4:sEq x.text (⟨#[109,97,116,99,104]⟩:BA)with
  |true=>exact key (zbs h0 h1 h2 h3 h4) (zb1 hn Ec) (by unfold zGZ;simp only[h0,h1,h2,h3,h4,Bool.false_eq_true,if_false,if_true];try rfl)
  |false=>
  cases h5:sEq x.text (⟨#[115,99,111,112,101]⟩:BA)with
  |true=>exact key (zbt h0 h1 h2 h3 h4 h5) (zbz Ec) (by unfold zGZ;simp only[h0,h1,h2,h3,h4,h5,Bool.false_eq_true,if_false,if_true];try rfl)
  |false=>
  cases h6:sEq x.text (⟨#[115,112,97,119,110]⟩:BA)with
  |true=>exact key (zbu h0 h1 h2 h3 h4 h5 h6) (zb2 hn va Ec) (by unfold zGZ;simp only[h0,h1,h2,h3,h4,h5,h6,Bool.false_eq_true,if_false,if_true];try rfl)
  |false=>
  cases h7:sEq x.text (⟨#[108,111,99,107]⟩:BA)with
  |true=>exact key (zbv h0 h1 h2 h3 h4 h5 h6 h7) (zc1 hn Ec) (by unfold zGZ;simp only[h0,h1,h2,h3,h4,h5,h6,h7,Bool.false_eq_true,if_false,if_true];try rfl)
  |false=>
  cases h8:sEq x.text (⟨#[99,104,97,110]⟩:BA)with
  |true=>exact key (zbw h0 h1 h2 h3 h4 h5 h6 h7 h8) (zc2) (by unfold zGZ;simp only[h0,h1,h2,h3,h4,h5,h6,h7,h8,Bool.false_eq_true,if_false,if_true];try rfl)
  |false=>
  cases h9:sEq x.text (⟨#[123]⟩:BA)with
  |true=>exact key (zbx h0 h1 h2 h3 h4 h5 h6 h7 h8 h9) (zb0 Ec) (by unfold zGZ;simp only[h0,h1,h2,h3,h4,h5,h6,h7,h8,h9,Bool.false_eq_true,if_false,if_true];try rfl)
  |false=>
  have hw:zGZ l n ex ka x.text ⟨s.at_+1,false,s.full⟩=none:=by
   unfold zGZ;simp only[h0,h1,h2,h3,h4,h5,h6,h7,h8,h9,Bool.false_eq_true,if_false]
  rw[hw]at h;cases h;exact⟨hs,rfl,zQA hs hb hx (by simp[zIU,h0,h1,h2,h3,h4,h5,h6,h7,h8,h9])⟩
end Go.Proofs.YtdflkegnmmkkoaaGreatDoor
namespace Go.Proofs.YtdflkegnmmkkoaaGreatDoor
open Go.RowKit _root_.Go.Proofs.Tryz
attribute [local simp] List.replicate List.range List.range.loop
variable{l:List Tok}
def zc3(l:List Tok)(s s':RS):Option St->Prop
 |some st=>RdC 176 [] l s s' (.tup [.agg (stU st),B true])\/(RdC 176 [] l s s (.tup [stZ,B false])/\RdC 177 [] l s s' (.tup [.agg (stU st),B true]))
 |none=>s'=s/\RdC 176 [] l s s (.tup [stZ,B false])/\∃nm q pos,RdC 177 [] l s s (.tup [stAs nm (.p q) pos,B false])
theorem zTP{n:Nat}(hn:n<=100000)(hl:l.length<=1500){ex:RS->Option (Ex × RS)}(va:RdOk l ex){ka:Blk}(Ec:BkOk l ka){s:RS}{r:Option St}{s':RS}(hs:s.at_<=l.length)(hb:s.bad=false)(h:zIx l n ex ka s=some (r,s')):s'.at_<=l.length/\zc3 l s s' r:=by
 unfold zIx at h;split at h
 .cases h
 .rename_i st s1 hf
  cases h
  obtain⟨a,b⟩:=zTO hn hl va Ec hs hb hf
  exact⟨a,.inl b⟩
 rename_i s1 hf
 obtain⟨a,rfl,b⟩:=zTO hn hl va Ec hs hb hf
 obtain⟨c,d⟩:=zWO hn va hs hb h
 cases r with
 |some st=>exact⟨c,.inr ⟨b,d⟩⟩
 |none=>exact⟨c,d.1,b,d.2⟩
theorem zHl{n:Nat}(hn:n<=100000)(hl:l.length<=1500){ex:RS->Option (Ex × RS)}(va:RdOk l ex){ka:Blk}(Ec:BkOk l ka){s:RS}{r:Option St}{s':RS}(hs:s.at_<=l.length)(hb:s.bad=false)(h:zIx l n ex ka s=some (r,s')):s'.at_<=l.length:=(zTP hn hl va Ec hs hb h).1
theorem zMD{l:List Tok}(hl:l.length<=1500):∀(n:Nat),n<=100000->(∀m<n,BkOk l (zCY l m []))->∀(acc:List St) (s:RS) (b:List St) (s':RS),s.at_<=l.length->zCY l n acc s=some (b,s')->s'.at_<=l.length
 |0,hn,Ec,acc,s,b,s',hs,h=>by simp[zCY]at h
 |n+1,hn,Ec,acc,s,b,s',hs,h=>by
  unfold zCY at h
  have ih:=zMD hl n (by omega) (fun m hm=>Ec m (by omega))
  have va:=zOi hl (n:=n) (by omega)
  split at h
  .cases h;exact hs
  rename_i hb
  split at h
  .cases h;exact zA2 _ hs
  split at h
  .cases h
  .rename_i st s1 h1
   exact ih _ _ _ _ (zHl (by omega) hl va (Ec n (by omega)) hs (by simpa using hb) h1) h
  rename_i s1 h1
  have La:=zHl (by omega) hl va (Ec n (by omega)) hs (by simpa using hb) h1
  split at h
  .cases h
  rename_i e s2 h2
  exact ih _ _ _ _ (zk _ _ (va _ _ _ La h2).2) h
structure XS where
 acc:List St
 rw:List (List PV)
def XS.ok(x:XS):Prop:=LeRows x.rw (x.acc.map St.enc)
abbrev zQG:PV:=.v (.slice none 0 0)
abbrev rowE(e:Ex)(pos:Int):List PV:=[pU 4,pS emS,pS emS,zQG,pU 0,pS emS,zQG,pI 0,pS emS,zQG,.sl 8 [e.enc],zQG,zQG,zQG,pI pos]
def XS.add(x:XS)(st:St):XS:=⟨x.acc++[st],x.rw++[st.enc]⟩
def XS.addE(x:XS)(e:Ex)(pos:Int):XS:=⟨x.acc++[(st0 4 emS emS [e] [] []).at pos],x.rw++[rowE e pos]⟩
theorem zQH(l:List (List PV)){c d:List PV}(h:LeRow c d):LeRows (l++[c]) (l++[d]):=by
 induction l with
 |nil=>exact .cons h (.refl _)
 |cons a l ih=>exact .cons (.refl _) ih
theorem zQI{a b:List (List PV)}(h:LeRows a b):a.length=b.length:=by
 induction a generalizing b with
 |nil=>cases h;rfl
 |cons x a ih=>
  cases h with
  |refl=>rfl
  |cons h1 h2=>rw[List.length_cons,List.length_cons,ih h2]
theorem zGy{c d:List PV}(hc:LeRow c d):∀{a b:List (List PV)},LeRows a b->LeRows (a++[c]) (b++[d])
 | [],b,h=>by cases h;exact .cons hc (.refl _)
 |x::a,b,h=>by
  cases h with
  |refl=>exact zQH (x::a) hc
  |cons h1 h2=>exact .cons h1 (zGy hc h2)
theorem XS.add_ok{x:XS}(h:x.ok)(st:St):(x.add st).ok:=by
 unfold XS.ok XS.add;rw[List.map_append];exact zGy (.refl _) h
theorem XS.addE_ok{x:XS}(h:x.ok)(e:Ex)(pos:Int):(x.addE e pos).ok:=by
 unfold XS.ok XS.addE;rw[List.map_append];refine zGy ?_ h;rw[zCd]
 repeat' constructor
theorem XS.len{x:XS}(h:x.ok):x.rw.length=x.acc.length:=by rw[zQI h,List.length_map]
def zI0(l:List Tok):Nat->XS->RS->Option (XS × RS)
 |0,_,_=>none
 |n+1,x,s=>
  if s.bad=true then some (x,s)
  else if isP l s (⟨#[125]⟩:BA) 0=true then some (x,mayP l s (⟨#[125]⟩:BA))
  else match zIx l n (zAn l n 6) (zCY l n []) s with
   |none=>none
   |some (some st,s1)=>zI0 l n (x.add st) s1
   |some (none,s1)=>match zAn l n 6 s1 with
    |none=>none
    |some (e,s2)=>zI0 l n (x.addE e (zBd l s1)) (zAa l s2 [(⟨#[59]⟩:BA)])
theorem zI1{l:List Tok}:∀(n:Nat) (x:XS) (s:RS) (b:List St) (s':RS),x.ok->zCY l n x.acc s=some (b,s')->∃y,zI0 l n x s=some (y,s')/\y.acc=b/\y.ok
 |0,x,s,b,s',ho,h=>by simp[zCY]at h
 |n+1,x,s,b,s',ho,h=>by
  unfold zCY at h;unfold zI0;split at h
  .rename_i hb;cases h;exact⟨x,by rw[if_pos hb],rfl,ho⟩
  rename_i hb
  rw[if_neg hb];split at h
  .rename_i hi;cases h;exact⟨x,by rw[if_pos hi],rfl,ho⟩
  rename_i hi
  rw[if_neg hi]
  cases Ca:zIx l n (zAn l n 6) (zCY l n []) s with
  |none=>rw[Ca]at h;cases h
  |some r=>
  obtain⟨r,s1⟩:=r
  rw[Ca]at h
  cases r with
  |some st=>exact zI1 n _ s1 b s' (XS.add_ok ho st) h
  |none=>
   dsimp only at h ⊢
   cases he:zAn l n 6 s1 with
   |none=>rw[he]at h;cases h
   |some y=>
    obtain⟨e,s2⟩:=y
    rw[he]at h;exact zI1 n _ _ b s' (XS.addE_ok ho e _) h
theorem zb3(hl:l.length<=1500)(N:Nat)(hN:N<=100000)(Ec:∀m<N,BkOk l (zCY l m [])):BkOk l (zCY l N []):=fun s b s' hs h=>by
 have Qc:=zMD hl N hN Ec _ _ _ _ hs h
 obtain⟨y,h2,rfl,hy⟩:=zI1 N ⟨[],[]⟩ s b s' (.refl _) h
 refine⟨RdC.less (r:=.p (.sl 15 y.rw)) (.p (.sl hy)) (RdC.intro fun S d i hR=>?_),Qc⟩
 refine ADet.intro mixed call233 func233 rfl ?_;simp[ntmps233];refine zA8 49 15 (by decide) [] (fun a:Nat × XS × RS=>zI0 l a.1 a.2.1 a.2.2=some (y,s')/\a.2.1.rw.length+a.1<=N/\a.2.2.at_<=l.length) (fun a=>([.ptr (d+1) i 0,.any,.any,.osl 15 a.2.1.rw 0 0]++List.replicate 40 .any)) (fun a=>[.tok 49 15 a.2.1.rw.length]::set2 S d i (rdO l a.2.2)) (fun a=>a.1) (N,⟨[],[]⟩,s) ⟨h2,by simp,hs⟩ ?_ ?_ ?_ ?_
 .simp
 .simp
 .rfl
 clear h h2
 rintro⟨k,acc,s4⟩ ⟨Za,vj,Va⟩
 simp only at Za vj Va
 cases k with
 |zero=>simp[zI0]at Za
 |succ k=>
 unfold zI0 at Za
 have yb:=(hR.upd s4 Va).o
 have Sf:acc.rw.length+1<=4294967296:=by omega
 cases hb:s4.bad with
 |true=>
  rw[hb,if_pos rfl]at Za;cases Za
  simp[yb,hb]
 |false=>
 rw[hb,if_neg (by simp)]at Za
 simp[yb,hb];refine cq ((mayW s4 (⟨#[125]⟩:BA)).at hR Va _) ?_
 cases hi:isP l s4 (⟨#[125]⟩:BA) 0 with
 |true=>
  rw[hi,if_pos rfl]at Za;cases Za
  simp
 |false=>
 rw[hi,if_neg (by simp)]at Za
 rw[zIz hi]
 have va:=zOi hl (n:=k) (by omega)
 have si:=Ec k (by omega)
 cases Ca:zIx l k (zAn l k 6) (zCY l k []) s4 with
 |none=>rw[Ca]at Za;cases Za
 |some r=>
 obtain⟨r,s5⟩:=r
 rw[Ca]at Za
 obtain⟨bf,tc⟩:=zTP (by omega) hl va si Va hb Ca
 cases r with
 |some st=>
  dsimp only at Za tc
  simp
  rcases tc with fC|⟨fC,aC⟩
  .refine cq (fC.at hR Va _) ?_
   simp[Sf];exact⟨k,acc.add st,s5,⟨Za,by simp[XS.add];omega,bf⟩,by omega,by simp[XS.add,zCd],by simp[XS.add],rfl⟩
  refine cq (fC.at hR Va _) ?_
  simp;refine cq (aC.at hR Va _) ?_;simp[Sf]
  exact⟨k,acc.add st,s5,⟨Za,by simp[XS.add];omega,bf⟩,by omega,by simp[XS.add,zCd],by simp[XS.add],rfl⟩
 |none=>
  dsimp only at Za tc
  obtain⟨rfl,fC,nm,q,pos,aC⟩:=tc
  cases he:zAn l k 6 s5 with
  |none=>rw[he]at Za;cases Za
  |some y=>
  obtain⟨e,s6⟩:=y
  rw[he]at Za
  dsimp only at Za
  obtain⟨eC,kc⟩:=va _ _ _ Va he
  have Jf:=zk [(⟨#[59]⟩:BA)] _ kc
  simp;refine cq (fC.at hR Va _) ?_;simp;refine cq (aC.at hR Va _) ?_;simp;refine cq ((zAb s5).at hR Va _) ?_;simp;refine cq (eC.at hR Va _) ?_;simp;refine cq (zDh _ kc hR _ _ _) ?_;simp[Sf];exact⟨k,acc.addE e (zBd l s5),_,⟨Za,by simp[XS.addE];omega,Jf⟩,by omega,by simp[XS.addE,zm],by simp[XS.addE],rfl⟩
theorem zTQ(hl:l.length<=1500):∀(N:Nat),N<=100000->BkOk l (zCY l N []):=fun N=>by
 induction N using Nat.strongRecOn with
 |_ N ih=>exact fun hN=>zb3 hl N hN fun m hm=>ih m hm (by omega)
attribute [local simp] List.forall_mem_cons List.contains_cons List.contains_nil List.find?
theorem zOj{l:List Tok}(hl:l.length<=1500):∀(n:Nat),n<=100000->∀(acc:List St) (s:RS) (b:List St × Ex) (s':RS),s.at_<=l.length->zJJ l n acc s=some (b,s')->s'.at_<=l.length
 |0,hn,acc,s,b,s',hs,h=>by simp[zJJ]at h
 |n+1,hn,acc,s,b,s',hs,h=>by
  unfold zJJ at h
  have ih:=zOj hl n (by omega)
  have va:=zOi hl (n:=n) (by omega)
  have Ec:=zTQ hl n (by omega)
  split at h
  .cases h;exact hs
  rename_i hb
  split at h
  .cases h
  .rename_i st s1 h1
   exact ih _ _ _ _ (zHl (by omega) hl va Ec hs (by simpa using hb) h1) h
  rename_i s1 h1
  have La:=zHl (by omega) hl va Ec hs (by simpa using hb) h1
  split at h
  .cases h
  rename_i e s2 h2
  have Ra:=(va _ _ _ La h2).2
  split at h
  .cases h;exact Ra
  exact ih _ _ _ _ (zk _ _ Ra) h
def zNP(l:List Tok):Nat->XS->RS->Option (Option (XS × Ex) × RS)
 |0,_,_=>none
 |n+1,x,s=>
  if s.bad=true then some (none,s)
  else match zIx l n (zAn l n 6) (zCY l n []) s with
   |none=>none
   |some (some st,s1)=>zNP l n (x.add st) s1
   |some (none,s1)=>match zAn l n 6 s1 with
    |none=>none
    |some (e,s2)=>if isP l s2 (⟨#[125]⟩:BA) 0=true then some (some (x,e),s2)else zNP l n (x.addE e (zBd l s1)) (zAa l s2 [(⟨#[59]⟩:BA)])
def zZX:Option (XS × Ex)->List AV
 |none=>[nilS,exZ]
 |some (x,e)=>[.p (.sl 15 x.rw),exV e]
def zXE(b:List St)(e:Ex):Option (XS × Ex)->Prop
 |none=>b=[]/\e=zFn
 |some (x,e1)=>x.ok/\x.acc=b/\e1=e
theorem zKx{l:List Tok}:∀(n:Nat) (x:XS) (s:RS) (b:List St) (e:Ex) (s':RS),x.ok->zJJ l n x.acc s=some ((b,e),s')->∃y,zNP l n x s=some (y,s')/\zXE b e y
 |0,x,s,b,e,s',ho,h=>by simp[zJJ]at h
 |n+1,x,s,b,e,s',ho,h=>by
  unfold zJJ at h;unfold zNP;split at h
  .rename_i hb;cases h;exact⟨none,by rw[if_pos hb],rfl,rfl⟩
  rename_i hb
  rw[if_neg hb]
  cases Ca:zIx l n (zAn l n 6) (zCY l n []) s with
  |none=>rw[Ca]at h;cases h
  |some r=>
  obtain⟨r,s1⟩:=r
  rw[Ca]at h
  cases r with
  |some st=>exact zKx n _ s1 b e s' (XS.add_ok ho st) h
  |none=>
   dsimp only at h ⊢
   cases he:zAn l n 6 s1 with
   |none=>rw[he]at h;cases h
   |some y=>
    obtain⟨e1,s2⟩:=y
    rw[he]at h
    dsimp only at h ⊢
    cases hi:isP l s2 (⟨#[125]⟩:BA) 0 with
    |true=>
     rw[hi,if_pos rfl]at h;cases h
     exact⟨some (x,e),by rw[if_pos rfl],ho,rfl,rfl⟩
    |false=>
     rw[hi,if_neg (by simp)]at h
     rw[if_neg (by simp)]
     exact zKx n _ _ b e s' (XS.addE_ok ho e1 _) h
theorem zWP{b:List St}{e:Ex}{y:Option (XS × Ex)}(h:zXE b e y):LeAs (zZX y) [.p (.sl 15 (b.map St.enc)),exV e]:=by
 cases y with
 |none=>
  obtain⟨rfl,rfl⟩:=h
  exact .cons (.p (.nil 15)) (.cons zL5 (.refl _))
 |some z=>
  obtain⟨x,e1⟩:=z
  obtain⟨h1,rfl,rfl⟩:=h
  exact .cons (.p (.sl h1)) (.refl _)
theorem zb4(hl:l.length<=1500)(N:Nat)(hN:N<=100000){s:RS}{b:List St}{e:Ex}{s':RS}(hs:s.at_<=l.length)(h:zJJ l N [] s=some ((b,e),s')):RdC 143 [] l s s' (.tup [.p (.sl 15 (b.map St.enc)),exV e])/\s'.at_<=l.length:=by
 have Qc:=zOj hl N hN _ _ _ _ hs h
 obtain⟨y,h2,hy⟩:=zKx N ⟨[],[]⟩ s b e s' (.refl _) h
 refine⟨RdC.lessT' (zWP hy) (RdC.intro fun S d i hR=>?_),Qc⟩
 refine ADet.intro mixed call143 func143 rfl ?_;simp[ntmps143];refine zA8 49 15 (by decide) [.cells [.any,.any,.any,.any,.any,.any,.any,.any] 43] (fun a:Nat × XS × RS=>zNP l a.1 a.2.1 a.2.2=some (y,s')/\a.2.1.rw.length+a.1<=N/\a.2.2.at_<=l.length) (fun a=>([.ptr (d+1) i 0,.any,.any,.ptr 0 0 0,.osl 15 a.2.1.rw 0 1]++List.replicate 42 .any)) (fun a=>[.cells [.any,.any,.any,.any,.any,.any,.any,.any] 43,.tok 49 15 a.2.1.rw.length]::set2 S d i (rdO l a.2.2)) (fun a=>a.1) (N,⟨[],[]⟩,s) ⟨h2,by simp,hs⟩ ?_ ?_ ?_ ?_
 .simp
 .simp
 .rfl
 clear h h2
 rintro⟨k,acc,s4⟩ ⟨Za,vj,Va⟩
 simp only at Za vj Va
 cases k with
 |zero=>simp[zNP]at Za
 |succ k=>
 unfold zNP at Za
 have yb:=(hR.upd s4 Va).o
 have Sf:acc.rw.length+1<=4294967296:=by omega
 cases hb:s4.bad with
 |true=>
  rw[hb,if_pos rfl]at Za;cases Za
  simp[yb,hb,zZX]
 |false=>
 rw[hb,if_neg (by simp)]at Za
 simp[yb,hb]
 have va:=zOi hl (n:=k) (by omega)
 have si:=zTQ hl k (by omega)
 cases Ca:zIx l k (zAn l k 6) (zCY l k []) s4 with
 |none=>rw[Ca]at Za;cases Za
 |some r=>
 obtain⟨r,s5⟩:=r
 rw[Ca]at Za
 obtain⟨bf,tc⟩:=zTP (by omega) hl va si Va hb Ca
 cases r with
 |some st=>
  dsimp only at Za tc
  rcases tc with fC|⟨fC,aC⟩
  .refine cq (fC.at hR Va _) ?_
   simp[Sf];exact⟨k,acc.add st,s5,⟨Za,by simp[XS.add];omega,bf⟩,by omega,by simp[XS.add,zCd],by simp[XS.add],rfl⟩
  refine cq (fC.at hR Va _) ?_
  simp;refine cq (aC.at hR Va _) ?_;simp[Sf]
  exact⟨k,acc.add st,s5,⟨Za,by simp[XS.add];omega,bf⟩,by omega,by simp[XS.add,zCd],by simp[XS.add],rfl⟩
 |none=>
  dsimp only at Za tc
  obtain⟨rfl,fC,nm,q,pos,aC⟩:=tc
  cases he:zAn l k 6 s5 with
  |none=>rw[he]at Za;cases Za
  |some y=>
  obtain⟨e1,s6⟩:=y
  rw[he]at Za
  dsimp only at Za
  obtain⟨eC,kc⟩:=va _ _ _ Va he
  have Jf:=zk [(⟨#[59]⟩:BA)] _ kc
  have iC:=fun L=>isC ((hR.upd s6 kc).push L) (⟨#[125]⟩:BA) 0 (by omega)
  refine cq (fC.at hR Va _) ?_;simp;refine cq (aC.at hR Va _) ?_;simp;refine cq ((zAb s5).at hR Va _) ?_;simp;refine cq (eC.at hR Va _) ?_;simp;refine cq (iC _) ?_
  cases hi:isP l s6 (⟨#[125]⟩:BA) 0 with
  |true=>
   rw[hi,if_pos rfl]at Za;cases Za;simp;refine dB [] (by kernel_rfl) ?_
   simp[zZX]
  |false=>
   rw[hi,if_neg (by simp)]at Za
   simp;refine cq (zDh _ kc hR _ _ _) ?_;simp[Sf];exact⟨k,acc.addE e1 (zBd l s5),_,⟨Za,by simp[XS.addE];omega,Jf⟩,by omega,by simp[XS.addE,zm],by simp[XS.addE],rfl⟩
end Go.Proofs.YtdflkegnmmkkoaaGreatDoor
