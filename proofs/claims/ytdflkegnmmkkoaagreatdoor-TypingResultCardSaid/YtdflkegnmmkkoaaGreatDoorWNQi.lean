/- A part of the proof. -/
import Derived.Test.YtdflkegnmmkkoaaGreatDoorWNRz
import Derived.Test.YtdflkegnmmkkoaaGreatDoorWNPt
set_option linter.unusedVariables false
set_option linter.unusedSimpArgs false
set_option maxRecDepth 100000
set_option maxHeartbeats 32000000
namespace Go.Proofs.YtdflkegnmmkkoaaGreatDoor
open Go.RowKit _root_.Go.Proofs.Tryz
attribute [local simp] List.replicate List.range List.range.loop List.forall_mem_cons List.contains_cons List.contains_nil List.find?
variable{l:List Tok}{n:Nat}
theorem ADet.lessTq{P:Program}{F:FuncId}{xs:List AV}{S S':ASt}{l l':List AV}(oa:LeAs l l')(h:ADet P F xs S (.tup l) S'):ADet P F xs S (.tup l') S':=
 ⟨h.1,fun Pr φ ys w da hR hne=>(h.2 Pr φ ys w da hR hne).mono fun e w' hp=>by
  obtain⟨x,Pr',φ',h1,h2,h3,h4⟩:=hp
  refine⟨x,Pr',φ',h1,h2,h3,?_⟩
  cases h4 with
  |tup k1 k2=>
   obtain⟨hl,hk⟩:=(zDz (Pr:=Pr') (φ:=φ')).2 oa
   exact .tup (hl ▸ k1) fun j c y hc hy=>by
    obtain⟨v,m1,m2⟩:=hk j c hc
    exact m2 (k2 j v y m1 hy)⟩
theorem RdC.lessT'{F:Nat}{args:List AV}{s s':RS}{a b:List AV}(oa:LeAs a b)(h:RdC F args l s s' (.tup a)):RdC F args l s s' (.tup b):=fun S d i hR=>ADet.lessTq oa (h S d i hR)
abbrev stP(st:St)(pos:Int):AV:=.agg [U st.op,Sg st.name,Sg st.u2,.p (strs st.names),U st.type.kind,Sg st.type.name,.p (.sl 3 (st.type.args.map Ty.enc)),I st.int,Sg st.place.name,.p (strs st.place.path),.p (.sl 8 (st.u3.map Ex.enc)),.p (.sl 15 (st.body.map St.enc)),.p (.sl 15 (st.els.map St.enc)),.p (.sl 3 (st.arms.map Ar.enc)),I pos]
def zG3(w:BA)(K:Nat):Prop:=∀d i:Nat,∃j,zAk .string (.string w) ((zDI d i).map fun x=>(.string x.1,.fn (.func x.2) [.ptr d i 0] [])) 0=some (some (j,.fn (.func K) [.ptr d i 0] []))
theorem zaj{w:BA}(h0:sEq w (⟨#[108,101,116]⟩:BA)=true):zG3 w 214:=fun d i=>by
 simp only[zDI,List.map_cons,List.map_nil,zj,h0,Bool.false_eq_true,if_false,if_true];exact⟨_,rfl⟩
theorem zak{w:BA}(h0:sEq w (⟨#[108,101,116]⟩:BA)=false)(h1:sEq w (⟨#[100,114,111,112]⟩:BA)=true):zG3 w 215:=fun d i=>by
 simp only[zDI,List.map_cons,List.map_nil,zj,h0,h1,Bool.false_eq_true,if_false,if_true];exact⟨_,rfl⟩
theorem zal{w:BA}(h0:sEq w (⟨#[108,101,116]⟩:BA)=false)(h1:sEq w (⟨#[100,114,111,112]⟩:BA)=false)(h2:sEq w (⟨#[105,102]⟩:BA)=true):zG3 w 216:=fun d i=>by
 simp only[zDI,List.map_cons,List.map_nil,zj,h0,h1,h2,Bool.false_eq_true,if_false,if_true];exact⟨_,rfl⟩
theorem zam{w:BA}(h0:sEq w (⟨#[108,101,116]⟩:BA)=false)(h1:sEq w (⟨#[100,114,111,112]⟩:BA)=false)(h2:sEq w (⟨#[105,102]⟩:BA)=false)(h3:sEq w (⟨#[119,104,105,108,101]⟩:BA)=true):zG3 w 217:=fun d i=>by
 simp only[zDI,List.map_cons,List.map_nil,zj,h0,h1,h2,h3,Bool.false_eq_true,if_false,if_true];exact⟨_,rfl⟩
theorem zan{w:BA}(h0:sEq w (⟨#[108,101,116]⟩:BA)=false)(h1:sEq w (⟨#[100,114,111,112]⟩:BA)=false)(h2:sEq w (⟨#[105,102]⟩:BA)=false)(h3:sEq w (⟨#[119,104,105,108,101]⟩:BA)=false)(h4:sEq w (⟨#[109,97,116,99,104]⟩:BA)=true):zG3 w 218:=fun d i=>by
 simp only[zDI,List.map_cons,List.map_nil,zj,h0,h1,h2,h3,h4,Bool.false_eq_true,if_false,if_true];exact⟨_,rfl⟩
theorem zao{w:BA}(h0:sEq w (⟨#[108,101,116]⟩:BA)=false)(h1:sEq w (⟨#[100,114,111,112]⟩:BA)=false)(h2:sEq w (⟨#[105,102]⟩:BA)=false)(h3:sEq w (⟨#[119,104,105,108,101]⟩:BA)=false)(h4:sEq w (⟨#[109,97,116,99,104]⟩:BA)=false)(h5:sEq w (⟨#[115,99,111,112,101]⟩:BA)=true):zG3 w 219:=fun d i=>by
 simp only[zDI,List.map_cons,List.map_nil,zj,h0,h1,h2,h3,h4,h5,Bool.false_eq_true,if_false,if_true];exact⟨_,rfl⟩
theorem zap{w:BA}(h0:sEq w (⟨#[108,101,116]⟩:BA)=false)(h1:sEq w (⟨#[100,114,111,112]⟩:BA)=false)(h2:sEq w (⟨#[105,102]⟩:BA)=false)(h3:sEq w (⟨#[119,104,105,108,101]⟩:BA)=false)(h4:sEq w (⟨#[109,97,116,99,104]⟩:BA)=false)(h5:sEq w (⟨#[115,99,111,112,101]⟩:BA)=false)(h6:sEq w (⟨#[115,112,97,119,110]⟩:BA)=true):zG3 w 220:=fun d i=>by
 simp only[zDI,List.map_cons,List.map_nil,zj,h0,h1,h2,h3,h4,h5,h6,Bool.false_eq_true,if_false,if_true];exact⟨_,rfl⟩
theorem zaq{w:BA}(h0:sEq w (⟨#[108,101,116]⟩:BA)=false)(h1:sEq w (⟨#[100,114,111,112]⟩:BA)=false)(h2:sEq w (⟨#[105,102]⟩:BA)=false)(h3:sEq w (⟨#[119,104,105,108,101]⟩:BA)=false)(h4:sEq w (⟨#[109,97,116,99,104]⟩:BA)=false)(h5:sEq w (⟨#[115,99,111,112,101]⟩:BA)=false)(h6:sEq w (⟨#[115,112,97,119,110]⟩:BA)=false)(h7:sEq w (⟨#[108,111,99,107]⟩:BA)=true):zG3 w 221:=fun d i=>by
 simp only[zDI,List.map_cons,List.map_nil,zj,h0,h1,h2,h3,h4,h5,h6,h7,Bool.false_eq_true,if_false,if_true];exact⟨_,rfl⟩
theorem zar{w:BA}(h0:sEq w (⟨#[108,101,116]⟩:BA)=false)(h1:sEq w (⟨#[100,114,111,112]⟩:BA)=false)(h2:sEq w (⟨#[105,102]⟩:BA)=false)(h3:sEq w (⟨#[119,104,105,108,101]⟩:BA)=false)(h4:sEq w (⟨#[109,97,116,99,104]⟩:BA)=false)(h5:sEq w (⟨#[115,99,111,112,101]⟩:BA)=false)(h6:sEq w (⟨#[115,112,97,119,110]⟩:BA)=false)(h7:sEq w (⟨#[108,111,99,107]⟩:BA)=false)(h8:sEq w (⟨#[99,104,97,110]⟩:BA)=true):zG3 w 222:=fun d i=>by
 simp only[zDI,List.map_cons,List.map_nil,zj,h0,h1,h2,h3,h4,h5,h6,h7,h8,Bool.false_eq_true,if_false,if_true];exact⟨_,rfl⟩
theorem zas{w:BA}(h0:sEq w (⟨#[108,101,116]⟩:BA)=false)(h1:sEq w (⟨#[100,114,111,112]⟩:BA)=false)(h2:sEq w (⟨#[105,102]⟩:BA)=false)(h3:sEq w (⟨#[119,104,105,108,101]⟩:BA)=false)(h4:sEq w (⟨#[109,97,116,99,104]⟩:BA)=false)(h5:sEq w (⟨#[115,99,111,112,101]⟩:BA)=false)(h6:sEq w (⟨#[115,112,97,119,110]⟩:BA)=false)(h7:sEq w (⟨#[108,111,99,107]⟩:BA)=false)(h8:sEq w (⟨#[99,104,97,110]⟩:BA)=false)(h9:sEq w (⟨#[123]⟩:BA)=true):zG3 w 223:=fun d i=>by
 simp only[zDI,List.map_cons,List.map_nil,zj,h0,h1,h2,h3,h4,h5,h6,h7,h8,h9,Bool.false_eq_true,if_false,if_true];exact⟨_,rfl⟩
theorem zP0{s s1:RS}{x:Tok}{K:Nat}{st:St}(hs:s.at_<=l.length)(hn:l.length<=1500)(hb:s.bad=false)(hx:l[s.at_]? =some x)(hK:zG3 x.text K)(kC:RdC K [] l ⟨s.at_+1,s.bad,s.full⟩ s1 (.agg (stU st))):RdC 176 [] l s s1 (.tup [stP st x.pos,B true]):=RdC.intro fun S d i hR=>by
 have ho:=(hR.upd s hs).o
 have hlt:=(List.getElem?_eq_some_iff.1 hx).1
 have aa:¬(l.length:Int)<=(s.at_:Int):=by omega
 have Ia:(s.at_:Int)<(l.length:Int):=by omega
 have Na:=zCo hx
 obtain⟨Q,hQ⟩:∃Q,Q=s.at_+1:=⟨_,rfl⟩
 have hw:IntKind.i64.wrap ((s.at_:Int)+1)=(Q:Int):=by rw[hQ];exact zCb (b:=1) (by unfold maxLen;omega)
 rw[<-hQ]at kC
 have Le:(⟨Q,s.bad,s.full⟩:RS).at_<=l.length:=by show Q<=_;omega
 have cA:=fun L=>kC.at hR Le L
 rw[hb]at cA;clear hlt
 obtain⟨j,hj⟩:=hK (d+1) i
 refine ADet.intro mixed call176 func176 rfl ?_;simp[ntmps176];refine dB [] (by kernel_rfl) ?_
 simp[ho,hb,aa];refine dB [(5,1),(9,1),(12,1)] (by kernel_rfl) ?_
 simp[ho,hb,aa];refine cq (zSn _ _ _ _) ?_;simp[ho,hb,Ia,hx,Tok.enc,mapS,hj];refine cq ((zAZ s).at hR hs _) ?_;rw[Na];simp[ho,hb,hw];refine cq (cA _) ?_;simp
theorem zM8{s s1 s2 s':RS}{x:Tok}{p:Pl}{e:Ex}(hs:s.at_<=l.length)(hb:s.bad=false)(hx:l[s.at_]? =some x)(hk:x.kind=2)(hi:isP l s (⟨#[40]⟩:BA) 1=false)(pC:RdC 203 [] l s s1 (plV p))(Ma:s1.at_<=l.length)(va:s1.bad=false)(hq:isP l s1 (⟨#[61]⟩:BA) 0=true)(eC:RdC 178 [] l (mayP l s1 (⟨#[61]⟩:BA)) s2 (exV e))(Ra:s2.at_<=l.length)(e1:zAY l s2 [(⟨#[59]⟩:BA)]=s'):RdC 177 [] l s s' (.tup [.agg (stU (.mk 3 emS emS [] zLa 0 p [e] [] [] [] x.pos)),B true]):=by
 subst e1;refine RdC.lessT' (a:=[.agg [U 3,Sg emS,Sg emS,nilS,U 0,Sg emS,nilS,I 0,Sg p.name,.p (strs p.path),.p (.sl 8 ([e].map Ex.enc)),nilS,nilS,nilS,I x.pos],B true]) (.cons (by repeat' constructor) (.cons (.refl _) (.refl _))) (RdC.intro fun S d i hR=>?_)
 have ho:=(hR.upd s hs).o
 have hlt:=(List.getElem?_eq_some_iff.1 hx).1
 have aa:¬(l.length:Int)<=(s.at_:Int):=by omega
 have Ia:(s.at_:Int)<(l.length:Int):=by omega
 clear hlt
 have Na:=zCo hx
 have xa:=zA0 (s:=s1) (⟨#[61]⟩:BA) Ma
 have iC:=fun L=>isC ((hR.upd s hs).push L) (⟨#[40]⟩:BA) 1 (by omega)
 rw[hi]at iC
 have nc:=(hR.upd s1 Ma).o
 refine ADet.intro mixed call177 func177 rfl ?_;simp[ntmps177,ho];refine cq ((zAZ s).at hR hs _) ?_;rw[Na];simp;refine dB [] (by kernel_rfl) ?_
 simp[ho,hb,aa,Ia,hx,Tok.enc,hk];refine cq (iC _) ?_;simp;refine cq (pC.at hR hs _) ?_;simp[nc,va];refine cq ((mayW s1 (⟨#[61]⟩:BA)).at hR Ma _) ?_;rw[hq];simp;refine cq (eC.at hR xa _) ?_;simp;refine cq (zDW _ Ra hR _ _ _) ?_;simp[zg]
def zYX(l:List Tok)(s s':RS):Option St->Prop
 |some st=>RdC 177 [] l s s' (.tup [.agg (stU st),B true])
 |none=>s'=s/\∃nm q pos,RdC 177 [] l s s (.tup [stAs nm (.p q) pos,B false])
def zWS(l:List Tok)(s s':RS):Option St->Prop
 |some st=>RdC 176 [] l s s' (.tup [.agg (stU st),B true])
 |none=>s'=s/\RdC 176 [] l s s (.tup [stZ,B false])
theorem zVc(hn:n<=100000){ex:RS->Option (Ex × RS)}(ua:RdOk l ex){s:RS}{r:Option St}{s':RS}(hs:s.at_<=l.length)(hb:s.bad=false)(h:zM7 l n ex s=some (r,s')):s'.at_<=l.length/\zYX l s s' r:=by
 unfold zM7 at h;rw[hb,if_neg (by simp)]at h
 cases hx:l[s.at_]? with
 |none=>
  rw[hx]at h;cases h
  have:=List.getElem?_eq_none_iff.1 hx
  exact⟨hs,rfl,_,_,_,zPx hs hb (by omega)⟩
 |some x=>
  rw[hx]at h
  dsimp only at h
  split at h
  .rename_i hk
   split at h
   .cases h
   rename_i p s1 hp
   have Ma:=(zGC hs hp).1
   split at h
   .rename_i hq
    obtain⟨⟨e,s2⟩,he,h2⟩:=Option.map_eq_some_iff.1 h
    cases h2
    obtain⟨eC,Ra⟩:=ua _ _ _ (zA0 _ Ma) he
    exact⟨zk _ _ Ra,zM8 hs hb hx hk.1 hk.2 (zSm hn hs hp) Ma hq.1 hq.2 eC Ra rfl⟩
   rename_i hne
   cases h;refine⟨hs,rfl,_,_,_,zM3 hn hs hb hx hk.1 hk.2 hp ?_⟩
   cases va:s1.bad with
   |true=>exact .inl rfl
   |false=>exact .inr ⟨rfl,by simpa [va]using hne⟩
  rename_i hk
  cases h;refine⟨hs,rfl,?_⟩
  by_cases If:x.kind=2
  .exact⟨_,_,_,zM2 hs hb hx If (by simpa [If]using hk)⟩
  exact⟨_,_,_,zM1 hs hb hx If⟩
def KOk(l:List Tok)(K:Nat)(rd:RS->Option (St × RS)):Prop:=∀s st s',s.at_<=l.length->rd s=some (st,s')->RdC K [] l s s' (.agg (stU st))/\s'.at_<=l.length
theorem letK(hn:n<=100000){ex:RS->Option (Ex × RS)}(ua:RdOk l ex):KOk l 214 (letQ l n ex):=fun s st s' hs h=>by
 unfold letQ at h
 cases hh:zGV l s 3 with
 |true=>
  rw[hh,if_pos rfl]at h
  cases h
 |false=>
  rw[hh,if_neg (by simp)]at h
  obtain⟨⟨e,s1⟩,he,h2⟩:=Option.map_eq_some_iff.1 h
  cases h2
  obtain⟨lC,Ma⟩:=zb1 hn ua (zk [(⟨#[61]⟩:BA)] _ (z9 (s:=s) 2 hs)) he
  refine⟨?_,zk _ _ Ma⟩
  rcases zEC hh with hb|⟨hb,hlt⟩|⟨hb,hlt,x,hx,hk⟩
  .exact zb3 hs hb lC Ma rfl
  .exact zb4 hs hb hlt lC Ma rfl
  exact zb5 hs hb hlt hx hk lC Ma rfl
theorem zb6:KOk l 215 (zYR l):=fun s st s' hs h=>by
 unfold zYR at h;cases h
theorem zYY{ex:RS->Option (Ex × RS)}(ua:RdOk l ex){ka:Blk}(Fc:BkOk l ka):KOk l 216 (zM6 l ex ka):=fun s st s' hs h=>by
 unfold zM6 at h;split at h
 .cases h
 rename_i e s1 he
 obtain⟨eC,Ma⟩:=ua _ _ _ hs he
 split at h
 .cases h
 rename_i b s2 ni
 obtain⟨bC,Ra⟩:=zai Fc Ma ni
 cases hi:isP l s2 (⟨#[101,108,115,101]⟩:BA) 0 with
 |true=>
  rw[hi,if_pos rfl]at h
  cases h
 |false=>
  rw[hi,if_neg (by simp)]at h
  cases h;exact⟨zVb hs eC Ma bC Ra hi,Ra⟩
theorem zat{ex:RS->Option (Ex × RS)}(ua:RdOk l ex){ka:Blk}(Fc:BkOk l ka):KOk l 217 (zSq l ex ka):=fun s st s' hs h=>by
 unfold zSq at h;cases h
theorem zau{ka:Blk}(Fc:BkOk l ka):KOk l 219 (zSr l ka):=fun s st s' hs h=>by
 unfold zSr at h;cases h
theorem zav{ka:Blk}(Fc:BkOk l ka):KOk l 223 (zSs ka):=fun s st s' hs h=>by
 unfold zSs at h;cases h
theorem zb7(hn:n<=100000){ka:Blk}(Fc:BkOk l ka):KOk l 221 (zYS l n ka):=fun s st s' hs h=>by
 unfold zYS at h;cases h
theorem zaw(hn:n<=100000){ka:Blk}(Fc:BkOk l ka):KOk l 218 (zSt l n ka):=fun s st s' hs h=>by
 unfold zSt at h;cases h
theorem zax(hn:n<=100000){ex:RS->Option (Ex × RS)}(ua:RdOk l ex){ka:Blk}(Fc:BkOk l ka):KOk l 220 (zSu l n ex ka):=fun s st s' hs h=>by
 unfold zSu at h;cases h
theorem zb8:KOk l 222 (zYT l n):=fun s st s' hs h=>by
 unfold zYT at h;cases h
theorem zSx(hn:n<=100000)(hl:l.length<=1500){ex:RS->Option (Ex × RS)}(ua:RdOk l ex){ka:Blk}(Fc:BkOk l ka){s:RS}{r:Option St}{s':RS}(hs:s.at_<=l.length)(hb:s.bad=false)(h:zSv l n ex ka s=some (r,s')):s'.at_<=l.length/\zWS l s s' r:=by
 unfold zSv at h;rw[hb,if_neg (by simp)]at h
 cases hx:l[s.at_]? with
 |none=>
  rw[hx]at h;cases h
  have:=List.getElem?_eq_none_iff.1 hx
  exact⟨hs,rfl,zSp hs hb (by omega)⟩
 |some x=>
  rw[hx]at h
  have hlt:=(List.getElem?_eq_some_iff.1 hx).1
  dsimp only at h
  have key:∀{K:Nat} {rd:RS->Option (St × RS)},zG3 x.text K->KOk l K rd->zGE l n ex ka x.text ⟨s.at_+1,s.bad,s.full⟩=some (rd ⟨s.at_+1,s.bad,s.full⟩)->s'.at_<=l.length/\zWS l s s' r:=by
   intro K rd hK Oa hw;rw[<-hb,hw]at h
   cases hr:rd ⟨s.at_+1,s.bad,s.full⟩with
   |none=>rw[hr]at h;cases h
   |some y=>
    obtain⟨st,s1⟩:=y
    rw[hr]at h;cases h
    obtain⟨kC,Ma⟩:=Oa _ _ _ (show(⟨s.at_+1,s.bad,s.full⟩:RS).at_<=l.length from hlt) hr
    exact⟨Ma,zP0 (st:=st) hs hl hb hx hK kC⟩
  cases h0:sEq x.text (⟨#[108,101,116]⟩:BA)with
  |true=>exact key (zaj h0) (letK hn ua) (by unfold zGE;simp only[h0,Bool.false_eq_true,if_false,if_true];try rfl)
  |false=>
  cases h1:sEq x.text (⟨#[100,114,111,112]⟩:BA)with
  |true=>exact key (zak h0 h1) (zb6) (by unfold zGE;simp only[h0,h1,Bool.false_eq_true,if_false,if_true];try rfl)
  |false=>
  cases h2:sEq x.text (⟨#[105,102]⟩:BA)with
  |true=>exact key (zal h0 h1 h2) (zYY ua Fc) (by unfold zGE;simp only[h0,h1,h2,Bool.false_eq_true,if_false,if_true];try rfl)
  |false=>
  cases h3:sEq x.text (⟨#[119,104,105,108,101]⟩:BA)with
  |true=>exact key (zam h0 h1 h2 h3) (zat ua Fc) (by unfold zGE;simp only[h0,h1,h2,h3,Bool.false_eq_true,if_false,if_true];try rfl)
  |false=>
  cases h4:sEq x.text (⟨#[109,97,116,99,104]⟩:BA)with
  |true=>exact key (zan h0 h1 h2 h3 h4) (zaw hn Fc) (by unfold zGE;simp only[h0,h1,h2,h3,h4,Bool.false_eq_true,if_false,if_true];try rfl)
  |false=>
  cases h5:sEq x.text (⟨#[115,99,111,112,101]⟩:BA)with
  |true=>exact key (zao h0 h1 h2 h3 h4 h5) (zau Fc) (by unfold zGE;simp only[h0,h1,h2,h3,h4,h5,Bool.false_eq_true,if_false,if_true];try rfl)
  |false=>
  cases h6:sEq x.text (⟨#[115,112,97,119,110]⟩:BA)with
  |true=>exact key (zap h0 h1 h2 h3 h4 h5 h6) (zax hn ua Fc) (by unfold zGE;simp only[h0,h1,h2,h3,h4,h5,h6,Bool.false_eq_true,if_false,if_true];try rfl)
  |false=>
  cases h7:sEq x.text (⟨#[108,111,99,107]⟩:BA)with
  |true=>exact key (zaq h0 h1 h2 h3 h4 h5 h6 h7) (zb7 hn Fc) (by unfold zGE;simp only[h0,h1,h2,h3,h4,h5,h6,h7,Bool.false_eq_true,if_false,if_true];try rfl)
  |false=>
  cases h8:sEq x.text (⟨#[99,104,97,110]⟩:BA)with
  |true=>exact key (zar h0 h1 h2 h3 h4 h5 h6 h7 h8) (zb8) (by unfold zGE;simp only[h0,h1,h2,h3,h4,h5,h6,h7,h8,Bool.false_eq_true,if_false,if_true];try rfl)
  |false=>
  cases h9:sEq x.text (⟨#[123]⟩:BA)with
  |true=>exact key (zas h0 h1 h2 h3 h4 h5 h6 h7 h8 h9) (zav Fc) (by unfold zGE;simp only[h0,h1,h2,h3,h4,h5,h6,h7,h8,h9,Bool.false_eq_true,if_false,if_true];try rfl)
  |false=>
  have hw:zGE l n ex ka x.text ⟨s.at_+1,false,s.full⟩=none:=by
   unfold zGE;simp only[h0,h1,h2,h3,h4,h5,h6,h7,h8,h9,Bool.false_eq_true,if_false]
  rw[hw]at h;cases h;exact⟨hs,rfl,zPw hs hb hx (by simp[zH9,h0,h1,h2,h3,h4,h5,h6,h7,h8,h9])⟩
end Go.Proofs.YtdflkegnmmkkoaaGreatDoor
namespace Go.Proofs.YtdflkegnmmkkoaaGreatDoor
open Go.RowKit _root_.Go.Proofs.Tryz
attribute [local simp] List.replicate List.range List.range.loop
variable{l:List Tok}
def zb9(l:List Tok)(s s':RS):Option St->Prop
 |some st=>RdC 176 [] l s s' (.tup [.agg (stU st),B true])\/(RdC 176 [] l s s (.tup [stZ,B false])/\RdC 177 [] l s s' (.tup [.agg (stU st),B true]))
 |none=>s'=s/\RdC 176 [] l s s (.tup [stZ,B false])/\∃nm q pos,RdC 177 [] l s s (.tup [stAs nm (.p q) pos,B false])
theorem zSy{n:Nat}(hn:n<=100000)(hl:l.length<=1500){ex:RS->Option (Ex × RS)}(ua:RdOk l ex){ka:Blk}(Fc:BkOk l ka){s:RS}{r:Option St}{s':RS}(hs:s.at_<=l.length)(hb:s.bad=false)(h:zIX l n ex ka s=some (r,s')):s'.at_<=l.length/\zb9 l s s' r:=by
 unfold zIX at h;split at h
 .cases h
 .rename_i st s1 hf
  cases h
  obtain⟨a,b⟩:=zSx hn hl ua Fc hs hb hf
  exact⟨a,.inl b⟩
 rename_i s1 hf
 obtain⟨a,rfl,b⟩:=zSx hn hl ua Fc hs hb hf
 obtain⟨c,d⟩:=zVc hn ua hs hb h
 cases r with
 |some st=>exact⟨c,.inr ⟨b,d⟩⟩
 |none=>exact⟨c,d.1,b,d.2⟩
theorem zHN{n:Nat}(hn:n<=100000)(hl:l.length<=1500){ex:RS->Option (Ex × RS)}(ua:RdOk l ex){ka:Blk}(Fc:BkOk l ka){s:RS}{r:Option St}{s':RS}(hs:s.at_<=l.length)(hb:s.bad=false)(h:zIX l n ex ka s=some (r,s')):s'.at_<=l.length:=(zSy hn hl ua Fc hs hb h).1
theorem zLy{l:List Tok}(hl:l.length<=1500):∀(n:Nat),n<=100000->(∀m<n,BkOk l (zCQ l m []))->∀(acc:List St) (s:RS) (b:List St) (s':RS),s.at_<=l.length->zCQ l n acc s=some (b,s')->s'.at_<=l.length
 |0,hn,Fc,acc,s,b,s',hs,h=>by simp[zCQ]at h
 |n+1,hn,Fc,acc,s,b,s',hs,h=>by
  unfold zCQ at h
  have ih:=zLy hl n (by omega) (fun m hm=>Fc m (by omega))
  have ua:=zOR hl (n:=n) (by omega)
  split at h
  .cases h;exact hs
  rename_i hb
  split at h
  .cases h;exact zA0 _ hs
  split at h
  .cases h
  .rename_i st s1 h1
   exact ih _ _ _ _ (zHN (by omega) hl ua (Fc n (by omega)) hs (by simpa using hb) h1) h
  rename_i s1 h1
  have Ma:=zHN (by omega) hl ua (Fc n (by omega)) hs (by simpa using hb) h1
  split at h
  .cases h
  rename_i e s2 h2
  exact ih _ _ _ _ (zk _ _ (ua _ _ _ Ma h2).2) h
structure XS where
 acc:List St
 rw:List (List PV)
def XS.ok(x:XS):Prop:=LeRows x.rw (x.acc.map St.enc)
abbrev zP1:PV:=.v (.slice none 0 0)
abbrev rowE(e:Ex)(pos:Int):List PV:=[pU 4,pS emS,pS emS,zP1,pU 0,pS emS,zP1,pI 0,pS emS,zP1,.sl 8 [e.enc],zP1,zP1,zP1,pI pos]
def XS.add(x:XS)(st:St):XS:=⟨x.acc++[st],x.rw++[st.enc]⟩
def XS.addE(x:XS)(e:Ex)(pos:Int):XS:=⟨x.acc++[(st0 4 emS emS [e] [] []).at pos],x.rw++[rowE e pos]⟩
theorem zP2(l:List (List PV)){c d:List PV}(h:LeRow c d):LeRows (l++[c]) (l++[d]):=by
 induction l with
 |nil=>exact .cons h (.refl _)
 |cons a l ih=>exact .cons (.refl _) ih
theorem zP3{a b:List (List PV)}(h:LeRows a b):a.length=b.length:=by
 induction a generalizing b with
 |nil=>cases h;rfl
 |cons x a ih=>
  cases h with
  |refl=>rfl
  |cons h1 h2=>rw[List.length_cons,List.length_cons,ih h2]
theorem zGi{c d:List PV}(hc:LeRow c d):∀{a b:List (List PV)},LeRows a b->LeRows (a++[c]) (b++[d])
 | [],b,h=>by cases h;exact .cons hc (.refl _)
 |x::a,b,h=>by
  cases h with
  |refl=>exact zP2 (x::a) hc
  |cons h1 h2=>exact .cons h1 (zGi hc h2)
theorem XS.add_ok{x:XS}(h:x.ok)(st:St):(x.add st).ok:=by
 unfold XS.ok XS.add;rw[List.map_append];exact zGi (.refl _) h
theorem XS.addE_ok{x:XS}(h:x.ok)(e:Ex)(pos:Int):(x.addE e pos).ok:=by
 unfold XS.ok XS.addE;rw[List.map_append];refine zGi ?_ h;rw[zCR]
 repeat' constructor
theorem XS.len{x:XS}(h:x.ok):x.rw.length=x.acc.length:=by rw[zP3 h,List.length_map]
def zIa(l:List Tok):Nat->XS->RS->Option (XS × RS)
 |0,_,_=>none
 |n+1,x,s=>
  if s.bad=true then some (x,s)
  else if isP l s (⟨#[125]⟩:BA) 0=true then some (x,mayP l s (⟨#[125]⟩:BA))
  else match zIX l n (zAm l n 6) (zCQ l n []) s with
   |none=>none
   |some (some st,s1)=>zIa l n (x.add st) s1
   |some (none,s1)=>match zAm l n 6 s1 with
    |none=>none
    |some (e,s2)=>zIa l n (x.addE e (zBY l s1)) (zAY l s2 [(⟨#[59]⟩:BA)])
theorem zIb{l:List Tok}:∀(n:Nat) (x:XS) (s:RS) (b:List St) (s':RS),x.ok->zCQ l n x.acc s=some (b,s')->∃y,zIa l n x s=some (y,s')/\y.acc=b/\y.ok
 |0,x,s,b,s',ho,h=>by simp[zCQ]at h
 |n+1,x,s,b,s',ho,h=>by
  unfold zCQ at h;unfold zIa;split at h
  .rename_i hb;cases h;exact⟨x,by rw[if_pos hb],rfl,ho⟩
  rename_i hb
  rw[if_neg hb];split at h
  .rename_i hi;cases h;exact⟨x,by rw[if_pos hi],rfl,ho⟩
  rename_i hi
  rw[if_neg hi]
  cases Ca:zIX l n (zAm l n 6) (zCQ l n []) s with
  |none=>rw[Ca]at h;cases h
  |some r=>
  obtain⟨r,s1⟩:=r
  rw[Ca]at h
  cases r with
  |some st=>exact zIb n _ s1 b s' (XS.add_ok ho st) h
  |none=>
   dsimp only at h ⊢
   cases he:zAm l n 6 s1 with
   |none=>rw[he]at h;cases h
   |some y=>
    obtain⟨e,s2⟩:=y
    rw[he]at h;exact zIb n _ _ b s' (XS.addE_ok ho e _) h
theorem zay(hl:l.length<=1500)(N:Nat)(hN:N<=100000)(Fc:∀m<N,BkOk l (zCQ l m [])):BkOk l (zCQ l N []):=fun s b s' hs h=>by
 have vd:=zLy hl N hN Fc _ _ _ _ hs h
 obtain⟨y,h2,rfl,hy⟩:=zIb N ⟨[],[]⟩ s b s' (.refl _) h
 refine⟨RdC.less (r:=.p (.sl 15 y.rw)) (.p (.sl hy)) (RdC.intro fun S d i hR=>?_),vd⟩
 refine ADet.intro mixed call233 func233 rfl ?_;simp[ntmps233];refine zAw 49 15 (by decide) [] (fun a:Nat × XS × RS=>zIa l a.1 a.2.1 a.2.2=some (y,s')/\a.2.1.rw.length+a.1<=N/\a.2.2.at_<=l.length) (fun a=>([.ptr (d+1) i 0,.any,.any,.osl 15 a.2.1.rw 0 0]++List.replicate 40 .any)) (fun a=>[.tok 49 15 a.2.1.rw.length]::set2 S d i (rdO l a.2.2)) (fun a=>a.1) (N,⟨[],[]⟩,s) ⟨h2,by simp,hs⟩ ?_ ?_ ?_ ?_
 .simp
 .simp
 .rfl
 clear h h2
 rintro⟨k,acc,s4⟩ ⟨ab,sh,Ua⟩
 simp only at ab sh Ua
 cases k with
 |zero=>simp[zIa]at ab
 |succ k=>
 unfold zIa at ab
 have Bb:=(hR.upd s4 Ua).o
 have ef:acc.rw.length+1<=4294967296:=by omega
 cases hb:s4.bad with
 |true=>
  rw[hb,if_pos rfl]at ab;cases ab
  simp[Bb,hb]
 |false=>
 rw[hb,if_neg (by simp)]at ab
 simp[Bb,hb];refine cq ((mayW s4 (⟨#[125]⟩:BA)).at hR Ua _) ?_
 cases hi:isP l s4 (⟨#[125]⟩:BA) 0 with
 |true=>
  rw[hi,if_pos rfl]at ab;cases ab
  simp
 |false=>
 rw[hi,if_neg (by simp)]at ab
 rw[zIZ hi]
 have ua:=zOR hl (n:=k) (by omega)
 have ni:=Fc k (by omega)
 cases Ca:zIX l k (zAm l k 6) (zCQ l k []) s4 with
 |none=>rw[Ca]at ab;cases ab
 |some r=>
 obtain⟨r,s5⟩:=r
 rw[Ca]at ab
 obtain⟨lf,qc⟩:=zSy (by omega) hl ua ni Ua hb Ca
 cases r with
 |some st=>
  dsimp only at ab qc
  simp
  rcases qc with fC|⟨fC,aC⟩
  .refine cq (fC.at hR Ua _) ?_
   simp[ef];exact⟨k,acc.add st,s5,⟨ab,by simp[XS.add];omega,lf⟩,by omega,by simp[XS.add,zCR],by simp[XS.add],rfl⟩
  refine cq (fC.at hR Ua _) ?_
  simp;refine cq (aC.at hR Ua _) ?_;simp[ef]
  exact⟨k,acc.add st,s5,⟨ab,by simp[XS.add];omega,lf⟩,by omega,by simp[XS.add,zCR],by simp[XS.add],rfl⟩
 |none=>
  dsimp only at ab qc
  obtain⟨rfl,fC,nm,q,pos,aC⟩:=qc
  cases he:zAm l k 6 s5 with
  |none=>rw[he]at ab;cases ab
  |some y=>
  obtain⟨e,s6⟩:=y
  rw[he]at ab
  dsimp only at ab
  obtain⟨eC,jc⟩:=ua _ _ _ Ua he
  have Qf:=zk [(⟨#[59]⟩:BA)] _ jc
  simp;refine cq (fC.at hR Ua _) ?_;simp;refine cq (aC.at hR Ua _) ?_;simp;refine cq ((zAZ s5).at hR Ua _) ?_;simp;refine cq (eC.at hR Ua _) ?_;simp;refine cq (zDW _ jc hR _ _ _) ?_;simp[ef];exact⟨k,acc.addE e (zBY l s5),_,⟨ab,by simp[XS.addE];omega,Qf⟩,by omega,by simp[XS.addE,zg],by simp[XS.addE],rfl⟩
theorem zSz(hl:l.length<=1500):∀(N:Nat),N<=100000->BkOk l (zCQ l N []):=fun N=>by
 induction N using Nat.strongRecOn with
 |_ N ih=>exact fun hN=>zay hl N hN fun m hm=>ih m hm (by omega)
attribute [local simp] List.forall_mem_cons List.contains_cons List.contains_nil List.find?
theorem zOS{l:List Tok}(hl:l.length<=1500):∀(n:Nat),n<=100000->∀(acc:List St) (s:RS) (b:List St × Ex) (s':RS),s.at_<=l.length->zIv l n acc s=some (b,s')->s'.at_<=l.length
 |0,hn,acc,s,b,s',hs,h=>by simp[zIv]at h
 |n+1,hn,acc,s,b,s',hs,h=>by
  unfold zIv at h
  have ih:=zOS hl n (by omega)
  have ua:=zOR hl (n:=n) (by omega)
  have Fc:=zSz hl n (by omega)
  split at h
  .cases h;exact hs
  rename_i hb
  split at h
  .cases h
  .rename_i st s1 h1
   exact ih _ _ _ _ (zHN (by omega) hl ua Fc hs (by simpa using hb) h1) h
  rename_i s1 h1
  have Ma:=zHN (by omega) hl ua Fc hs (by simpa using hb) h1
  split at h
  .cases h
  rename_i e s2 h2
  have Ra:=(ua _ _ _ Ma h2).2
  split at h
  .cases h;exact Ra
  exact ih _ _ _ _ (zk _ _ Ra) h
def zM9(l:List Tok):Nat->XS->RS->Option (Option (XS × Ex) × RS)
 |0,_,_=>none
 |n+1,x,s=>
  if s.bad=true then some (none,s)
  else match zIX l n (zAm l n 6) (zCQ l n []) s with
   |none=>none
   |some (some st,s1)=>zM9 l n (x.add st) s1
   |some (none,s1)=>match zAm l n 6 s1 with
    |none=>none
    |some (e,s2)=>if isP l s2 (⟨#[125]⟩:BA) 0=true then some (some (x,e),s2)else zM9 l n (x.addE e (zBY l s1)) (zAY l s2 [(⟨#[59]⟩:BA)])
def zYZ:Option (XS × Ex)->List AV
 |none=>[nilS,exZ]
 |some (x,e)=>[.p (.sl 15 x.rw),exV e]
def zWT(b:List St)(e:Ex):Option (XS × Ex)->Prop
 |none=>b=[]/\e=zFa
 |some (x,e1)=>x.ok/\x.acc=b/\e1=e
theorem zKd{l:List Tok}:∀(n:Nat) (x:XS) (s:RS) (b:List St) (e:Ex) (s':RS),x.ok->zIv l n x.acc s=some ((b,e),s')->∃y,zM9 l n x s=some (y,s')/\zWT b e y
 |0,x,s,b,e,s',ho,h=>by simp[zIv]at h
 |n+1,x,s,b,e,s',ho,h=>by
  unfold zIv at h;unfold zM9;split at h
  .rename_i hb;cases h;exact⟨none,by rw[if_pos hb],rfl,rfl⟩
  rename_i hb
  rw[if_neg hb]
  cases Ca:zIX l n (zAm l n 6) (zCQ l n []) s with
  |none=>rw[Ca]at h;cases h
  |some r=>
  obtain⟨r,s1⟩:=r
  rw[Ca]at h
  cases r with
  |some st=>exact zKd n _ s1 b e s' (XS.add_ok ho st) h
  |none=>
   dsimp only at h ⊢
   cases he:zAm l n 6 s1 with
   |none=>rw[he]at h;cases h
   |some y=>
    obtain⟨e1,s2⟩:=y
    rw[he]at h
    dsimp only at h ⊢
    cases hi:isP l s2 (⟨#[125]⟩:BA) 0 with
    |true=>
     rw[hi,if_pos rfl]at h;cases h
     exact⟨some (x,e),by rw[if_pos rfl],ho,rfl,rfl⟩
    |false=>
     rw[hi,if_neg (by simp)]at h
     rw[if_neg (by simp)]
     exact zKd n _ _ b e s' (XS.addE_ok ho e1 _) h
theorem zVd{b:List St}{e:Ex}{y:Option (XS × Ex)}(h:zWT b e y):LeAs (zYZ y) [.p (.sl 15 (b.map St.enc)),exV e]:=by
 cases y with
 |none=>
  obtain⟨rfl,rfl⟩:=h
  exact .cons (.p (.nil 15)) (.cons zLw (.refl _))
 |some z=>
  obtain⟨x,e1⟩:=z
  obtain⟨h1,rfl,rfl⟩:=h
  exact .cons (.p (.sl h1)) (.refl _)
theorem zaz(hl:l.length<=1500)(N:Nat)(hN:N<=100000){s:RS}{b:List St}{e:Ex}{s':RS}(hs:s.at_<=l.length)(h:zIv l N [] s=some ((b,e),s')):RdC 143 [] l s s' (.tup [.p (.sl 15 (b.map St.enc)),exV e])/\s'.at_<=l.length:=by
 have vd:=zOS hl N hN _ _ _ _ hs h
 obtain⟨y,h2,hy⟩:=zKd N ⟨[],[]⟩ s b e s' (.refl _) h
 refine⟨RdC.lessT' (zVd hy) (RdC.intro fun S d i hR=>?_),vd⟩
 refine ADet.intro mixed call143 func143 rfl ?_;simp[ntmps143];refine zAw 49 15 (by decide) [.cells [.any,.any,.any,.any,.any,.any,.any,.any] 43] (fun a:Nat × XS × RS=>zM9 l a.1 a.2.1 a.2.2=some (y,s')/\a.2.1.rw.length+a.1<=N/\a.2.2.at_<=l.length) (fun a=>([.ptr (d+1) i 0,.any,.any,.ptr 0 0 0,.osl 15 a.2.1.rw 0 1]++List.replicate 42 .any)) (fun a=>[.cells [.any,.any,.any,.any,.any,.any,.any,.any] 43,.tok 49 15 a.2.1.rw.length]::set2 S d i (rdO l a.2.2)) (fun a=>a.1) (N,⟨[],[]⟩,s) ⟨h2,by simp,hs⟩ ?_ ?_ ?_ ?_
 .simp
 .simp
 .rfl
 clear h h2
 rintro⟨k,acc,s4⟩ ⟨ab,sh,Ua⟩
 simp only at ab sh Ua
 cases k with
 |zero=>simp[zM9]at ab
 |succ k=>
 unfold zM9 at ab
 have Bb:=(hR.upd s4 Ua).o
 have ef:acc.rw.length+1<=4294967296:=by omega
 cases hb:s4.bad with
 |true=>
  rw[hb,if_pos rfl]at ab;cases ab
  simp[Bb,hb,zYZ]
 |false=>
 rw[hb,if_neg (by simp)]at ab
 simp[Bb,hb]
 have ua:=zOR hl (n:=k) (by omega)
 have ni:=zSz hl k (by omega)
 cases Ca:zIX l k (zAm l k 6) (zCQ l k []) s4 with
 |none=>rw[Ca]at ab;cases ab
 |some r=>
 obtain⟨r,s5⟩:=r
 rw[Ca]at ab
 obtain⟨lf,qc⟩:=zSy (by omega) hl ua ni Ua hb Ca
 cases r with
 |some st=>
  dsimp only at ab qc
  rcases qc with fC|⟨fC,aC⟩
  .refine cq (fC.at hR Ua _) ?_
   simp[ef];exact⟨k,acc.add st,s5,⟨ab,by simp[XS.add];omega,lf⟩,by omega,by simp[XS.add,zCR],by simp[XS.add],rfl⟩
  refine cq (fC.at hR Ua _) ?_
  simp;refine cq (aC.at hR Ua _) ?_;simp[ef]
  exact⟨k,acc.add st,s5,⟨ab,by simp[XS.add];omega,lf⟩,by omega,by simp[XS.add,zCR],by simp[XS.add],rfl⟩
 |none=>
  dsimp only at ab qc
  obtain⟨rfl,fC,nm,q,pos,aC⟩:=qc
  cases he:zAm l k 6 s5 with
  |none=>rw[he]at ab;cases ab
  |some y=>
  obtain⟨e1,s6⟩:=y
  rw[he]at ab
  dsimp only at ab
  obtain⟨eC,jc⟩:=ua _ _ _ Ua he
  have Qf:=zk [(⟨#[59]⟩:BA)] _ jc
  have iC:=fun L=>isC ((hR.upd s6 jc).push L) (⟨#[125]⟩:BA) 0 (by omega)
  refine cq (fC.at hR Ua _) ?_;simp;refine cq (aC.at hR Ua _) ?_;simp;refine cq ((zAZ s5).at hR Ua _) ?_;simp;refine cq (eC.at hR Ua _) ?_;simp;refine cq (iC _) ?_
  cases hi:isP l s6 (⟨#[125]⟩:BA) 0 with
  |true=>
   rw[hi,if_pos rfl]at ab;cases ab;simp;refine dB [] (by kernel_rfl) ?_
   simp[zYZ]
  |false=>
   rw[hi,if_neg (by simp)]at ab
   simp;refine cq (zDW _ jc hR _ _ _) ?_;simp[ef];exact⟨k,acc.addE e1 (zBY l s5),_,⟨ab,by simp[XS.addE];omega,Qf⟩,by omega,by simp[XS.addE,zg],by simp[XS.addE],rfl⟩
end Go.Proofs.YtdflkegnmmkkoaaGreatDoor
