/- A part of the proof. -/
import Derived.Test.YtdflkegnmmkkoaaGreatDoorYNRz
import Derived.Test.YtdflkegnmmkkoaaGreatDoorYNPt
set_option linter.unusedVariables false
set_option linter.unusedSimpArgs false
set_option maxRecDepth 100000
set_option maxHeartbeats 32000000
namespace Go.Proofs.YtdflkegnmmkkoaaGreatDoor
open Go.RowKit _root_.Go.Proofs.Tryz
attribute [local simp] List.replicate List.range List.range.loop List.forall_mem_cons List.contains_cons List.contains_nil List.find?
variable{l:List Tok}{n:Nat}
theorem ADet.lessTq{P:Program}{F:FuncId}{xs:List AV}{S S':ASt}{l l':List AV}(ra:LeAs l l')(h:ADet P F xs S (.tup l) S'):ADet P F xs S (.tup l') S':=
 ⟨h.1,fun Pr φ ys w da hR hne=>(h.2 Pr φ ys w da hR hne).mono fun e w' hp=>by
  obtain⟨x,Pr',φ',h1,h2,h3,h4⟩:=hp
  refine⟨x,Pr',φ',h1,h2,h3,?_⟩
  cases h4 with
  |tup k1 k2=>
   obtain⟨hl,hk⟩:=(zD7 (Pr:=Pr') (φ:=φ')).2 ra
   exact .tup (hl ▸ k1) fun j c y hc hy=>by
    obtain⟨v,m1,m2⟩:=hk j c hc
    exact m2 (k2 j v y m1 hy)⟩
theorem RdC.lessT'{F:Nat}{args:List AV}{s s':RS}{a b:List AV}(ra:LeAs a b)(h:RdC F args l s s' (.tup a)):RdC F args l s s' (.tup b):=fun S d i hR=>ADet.lessTq ra (h S d i hR)
abbrev stP(st:St)(pos:Int):AV:=.agg [U st.op,Sg st.name,Sg st.u2,.p (strs st.names),U st.type.kind,Sg st.type.name,.p (.sl 3 (st.type.args.map Ty.enc)),I st.int,Sg st.place.name,.p (strs st.place.path),.p (.sl 8 (st.u3.map Ex.enc)),.p (.sl 15 (st.body.map St.enc)),.p (.sl 15 (st.els.map St.enc)),.p (.sl 3 (st.arms.map Ar.enc)),I pos]
def zHN(w:BA)(K:Nat):Prop:=∀d i:Nat,∃j,zAr .string (.string w) ((zDR d i).map fun x=>(.string x.1,.fn (.func x.2) [.ptr d i 0] [])) 0=some (some (j,.fn (.func K) [.ptr d i 0] []))
theorem zaR{w:BA}(h0:sEq w (⟨#[108,101,116]⟩:BA)=true):zHN w 214:=fun d i=>by
 simp only[zDR,List.map_cons,List.map_nil,zl,h0,Bool.false_eq_true,if_false,if_true];exact⟨_,rfl⟩
theorem zaS{w:BA}(h0:sEq w (⟨#[108,101,116]⟩:BA)=false)(h1:sEq w (⟨#[100,114,111,112]⟩:BA)=true):zHN w 215:=fun d i=>by
 simp only[zDR,List.map_cons,List.map_nil,zl,h0,h1,Bool.false_eq_true,if_false,if_true];exact⟨_,rfl⟩
theorem zaT{w:BA}(h0:sEq w (⟨#[108,101,116]⟩:BA)=false)(h1:sEq w (⟨#[100,114,111,112]⟩:BA)=false)(h2:sEq w (⟨#[105,102]⟩:BA)=true):zHN w 216:=fun d i=>by
 simp only[zDR,List.map_cons,List.map_nil,zl,h0,h1,h2,Bool.false_eq_true,if_false,if_true];exact⟨_,rfl⟩
theorem zaU{w:BA}(h0:sEq w (⟨#[108,101,116]⟩:BA)=false)(h1:sEq w (⟨#[100,114,111,112]⟩:BA)=false)(h2:sEq w (⟨#[105,102]⟩:BA)=false)(h3:sEq w (⟨#[119,104,105,108,101]⟩:BA)=true):zHN w 217:=fun d i=>by
 simp only[zDR,List.map_cons,List.map_nil,zl,h0,h1,h2,h3,Bool.false_eq_true,if_false,if_true];exact⟨_,rfl⟩
theorem zaV{w:BA}(h0:sEq w (⟨#[108,101,116]⟩:BA)=false)(h1:sEq w (⟨#[100,114,111,112]⟩:BA)=false)(h2:sEq w (⟨#[105,102]⟩:BA)=false)(h3:sEq w (⟨#[119,104,105,108,101]⟩:BA)=false)(h4:sEq w (⟨#[109,97,116,99,104]⟩:BA)=true):zHN w 218:=fun d i=>by
 simp only[zDR,List.map_cons,List.map_nil,zl,h0,h1,h2,h3,h4,Bool.false_eq_true,if_false,if_true];exact⟨_,rfl⟩
theorem zaW{w:BA}(h0:sEq w (⟨#[108,101,116]⟩:BA)=false)(h1:sEq w (⟨#[100,114,111,112]⟩:BA)=false)(h2:sEq w (⟨#[105,102]⟩:BA)=false)(h3:sEq w (⟨#[119,104,105,108,101]⟩:BA)=false)(h4:sEq w (⟨#[109,97,116,99,104]⟩:BA)=false)(h5:sEq w (⟨#[115,99,111,112,101]⟩:BA)=true):zHN w 219:=fun d i=>by
 simp only[zDR,List.map_cons,List.map_nil,zl,h0,h1,h2,h3,h4,h5,Bool.false_eq_true,if_false,if_true];exact⟨_,rfl⟩
theorem zaX{w:BA}(h0:sEq w (⟨#[108,101,116]⟩:BA)=false)(h1:sEq w (⟨#[100,114,111,112]⟩:BA)=false)(h2:sEq w (⟨#[105,102]⟩:BA)=false)(h3:sEq w (⟨#[119,104,105,108,101]⟩:BA)=false)(h4:sEq w (⟨#[109,97,116,99,104]⟩:BA)=false)(h5:sEq w (⟨#[115,99,111,112,101]⟩:BA)=false)(h6:sEq w (⟨#[115,112,97,119,110]⟩:BA)=true):zHN w 220:=fun d i=>by
 simp only[zDR,List.map_cons,List.map_nil,zl,h0,h1,h2,h3,h4,h5,h6,Bool.false_eq_true,if_false,if_true];exact⟨_,rfl⟩
theorem zaY{w:BA}(h0:sEq w (⟨#[108,101,116]⟩:BA)=false)(h1:sEq w (⟨#[100,114,111,112]⟩:BA)=false)(h2:sEq w (⟨#[105,102]⟩:BA)=false)(h3:sEq w (⟨#[119,104,105,108,101]⟩:BA)=false)(h4:sEq w (⟨#[109,97,116,99,104]⟩:BA)=false)(h5:sEq w (⟨#[115,99,111,112,101]⟩:BA)=false)(h6:sEq w (⟨#[115,112,97,119,110]⟩:BA)=false)(h7:sEq w (⟨#[108,111,99,107]⟩:BA)=true):zHN w 221:=fun d i=>by
 simp only[zDR,List.map_cons,List.map_nil,zl,h0,h1,h2,h3,h4,h5,h6,h7,Bool.false_eq_true,if_false,if_true];exact⟨_,rfl⟩
theorem zaZ{w:BA}(h0:sEq w (⟨#[108,101,116]⟩:BA)=false)(h1:sEq w (⟨#[100,114,111,112]⟩:BA)=false)(h2:sEq w (⟨#[105,102]⟩:BA)=false)(h3:sEq w (⟨#[119,104,105,108,101]⟩:BA)=false)(h4:sEq w (⟨#[109,97,116,99,104]⟩:BA)=false)(h5:sEq w (⟨#[115,99,111,112,101]⟩:BA)=false)(h6:sEq w (⟨#[115,112,97,119,110]⟩:BA)=false)(h7:sEq w (⟨#[108,111,99,107]⟩:BA)=false)(h8:sEq w (⟨#[99,104,97,110]⟩:BA)=true):zHN w 222:=fun d i=>by
 simp only[zDR,List.map_cons,List.map_nil,zl,h0,h1,h2,h3,h4,h5,h6,h7,h8,Bool.false_eq_true,if_false,if_true];exact⟨_,rfl⟩
theorem zaa{w:BA}(h0:sEq w (⟨#[108,101,116]⟩:BA)=false)(h1:sEq w (⟨#[100,114,111,112]⟩:BA)=false)(h2:sEq w (⟨#[105,102]⟩:BA)=false)(h3:sEq w (⟨#[119,104,105,108,101]⟩:BA)=false)(h4:sEq w (⟨#[109,97,116,99,104]⟩:BA)=false)(h5:sEq w (⟨#[115,99,111,112,101]⟩:BA)=false)(h6:sEq w (⟨#[115,112,97,119,110]⟩:BA)=false)(h7:sEq w (⟨#[108,111,99,107]⟩:BA)=false)(h8:sEq w (⟨#[99,104,97,110]⟩:BA)=false)(h9:sEq w (⟨#[123]⟩:BA)=true):zHN w 223:=fun d i=>by
 simp only[zDR,List.map_cons,List.map_nil,zl,h0,h1,h2,h3,h4,h5,h6,h7,h8,h9,Bool.false_eq_true,if_false,if_true];exact⟨_,rfl⟩
theorem zPu{s s1:RS}{x:Tok}{K:Nat}{st:St}(hs:s.at_<=l.length)(hn:l.length<=1500)(hb:s.bad=false)(hx:l[s.at_]? =some x)(hK:zHN x.text K)(kC:RdC K [] l ⟨s.at_+1,s.bad,s.full⟩ s1 (.agg (stU st))):RdC 176 [] l s s1 (.tup [stP st x.pos,B true]):=RdC.intro fun S d i hR=>by
 have ho:=(hR.upd s hs).o
 have hlt:=(List.getElem?_eq_some_iff.1 hx).1
 have aa:¬(l.length:Int)<=(s.at_:Int):=by omega
 have ab:(s.at_:Int)<(l.length:Int):=by omega
 have Ia:=zCv hx
 obtain⟨Q,hQ⟩:∃Q,Q=s.at_+1:=⟨_,rfl⟩
 have hw:IntKind.i64.wrap ((s.at_:Int)+1)=(Q:Int):=by rw[hQ];exact zCZ (b:=1) (by unfold maxLen;omega)
 rw[<-hQ]at kC
 have Oe:(⟨Q,s.bad,s.full⟩:RS).at_<=l.length:=by show Q<=_;omega
 have cA:=fun L=>kC.at hR Oe L
 rw[hb]at cA;clear hlt
 obtain⟨j,hj⟩:=hK (d+1) i
 refine ADet.intro mixed call176 func176 rfl ?_;simp[ntmps176];refine dB [] (by kernel_rfl) ?_
 simp[ho,hb,aa];refine dB [(5,1),(9,1),(12,1)] (by kernel_rfl) ?_
 simp[ho,hb,aa];refine cq (zSf _ _ _ _) ?_;simp[ho,hb,ab,hx,Tok.enc,mapS,hj];refine cq ((zAe s).at hR hs _) ?_;rw[Ia];simp[ho,hb,hw];refine cq (cA _) ?_;simp
theorem zND{s s1 s2 s':RS}{x:Tok}{p:Pl}{e:Ex}(hs:s.at_<=l.length)(hb:s.bad=false)(hx:l[s.at_]? =some x)(hk:x.kind=2)(hi:isP l s (⟨#[40]⟩:BA) 1=false)(pC:RdC 203 [] l s s1 (plV p))(La:s1.at_<=l.length)(va:s1.bad=false)(hq:isP l s1 (⟨#[61]⟩:BA) 0=true)(eC:RdC 178 [] l (mayP l s1 (⟨#[61]⟩:BA)) s2 (exV e))(Ra:s2.at_<=l.length)(e1:zAd l s2 [(⟨#[59]⟩:BA)]=s'):RdC 177 [] l s s' (.tup [.agg (stU (.mk 3 emS emS [] zLj 0 p [e] [] [] [] x.pos)),B true]):=by
 subst e1;refine RdC.lessT' (a:=[.agg [U 3,Sg emS,Sg emS,nilS,U 0,Sg emS,nilS,I 0,Sg p.name,.p (strs p.path),.p (.sl 8 ([e].map Ex.enc)),nilS,nilS,nilS,I x.pos],B true]) (.cons (by repeat' constructor) (.cons (.refl _) (.refl _))) (RdC.intro fun S d i hR=>?_)
 have ho:=(hR.upd s hs).o
 have hlt:=(List.getElem?_eq_some_iff.1 hx).1
 have aa:¬(l.length:Int)<=(s.at_:Int):=by omega
 have ab:(s.at_:Int)<(l.length:Int):=by omega
 clear hlt
 have Ia:=zCv hx
 have xa:=zA7 (s:=s1) (⟨#[61]⟩:BA) La
 have iC:=fun L=>isC ((hR.upd s hs).push L) (⟨#[40]⟩:BA) 1 (by omega)
 rw[hi]at iC
 have mc:=(hR.upd s1 La).o
 refine ADet.intro mixed call177 func177 rfl ?_;simp[ntmps177,ho];refine cq ((zAe s).at hR hs _) ?_;rw[Ia];simp;refine dB [] (by kernel_rfl) ?_
 simp[ho,hb,aa,ab,hx,Tok.enc,hk];refine cq (iC _) ?_;simp;refine cq (pC.at hR hs _) ?_;simp[mc,va];refine cq ((mayW s1 (⟨#[61]⟩:BA)).at hR La _) ?_;rw[hq];simp;refine cq (eC.at hR xa _) ?_;simp;refine cq (zDg _ Ra hR _ _ _) ?_;simp[zf]
def zYM(l:List Tok)(s s':RS):Option St->Prop
 |some st=>RdC 177 [] l s s' (.tup [.agg (stU st),B true])
 |none=>s'=s/\∃nm q pos,RdC 177 [] l s s (.tup [stAs nm (.p q) pos,B false])
def zWE(l:List Tok)(s s':RS):Option St->Prop
 |some st=>RdC 176 [] l s s' (.tup [.agg (stU st),B true])
 |none=>s'=s/\RdC 176 [] l s s (.tup [stZ,B false])
theorem zVU(hn:n<=100000){ex:RS->Option (Ex × RS)}(ta:RdOk l ex){s:RS}{r:Option St}{s':RS}(hs:s.at_<=l.length)(hb:s.bad=false)(h:zNC l n ex s=some (r,s')):s'.at_<=l.length/\zYM l s s' r:=by
 unfold zNC at h;rw[hb,if_neg (by simp)]at h
 cases hx:l[s.at_]? with
 |none=>
  rw[hx]at h;cases h
  have:=List.getElem?_eq_none_iff.1 hx
  exact⟨hs,rfl,_,_,_,zPr hs hb (by omega)⟩
 |some x=>
  rw[hx]at h
  dsimp only at h
  split at h
  .rename_i hk
   split at h
   .cases h
   rename_i p s1 hp
   have La:=(zGR hs hp).1
   split at h
   .rename_i hq
    obtain⟨⟨e,s2⟩,he,h2⟩:=Option.map_eq_some_iff.1 h
    cases h2
    obtain⟨eC,Ra⟩:=ta _ _ _ (zA7 _ La) he
    exact⟨zm _ _ Ra,zND hs hb hx hk.1 hk.2 (zSe hn hs hp) La hq.1 hq.2 eC Ra rfl⟩
   rename_i hne
   cases h;refine⟨hs,rfl,_,_,_,zM8 hn hs hb hx hk.1 hk.2 hp ?_⟩
   cases va:s1.bad with
   |true=>exact .inl rfl
   |false=>exact .inr ⟨rfl,by simpa [va]using hne⟩
  rename_i hk
  cases h;refine⟨hs,rfl,?_⟩
  by_cases Og:x.kind=2
  .exact⟨_,_,_,zM7 hs hb hx Og (by simpa [Og]using hk)⟩
  exact⟨_,_,_,zM6 hs hb hx Og⟩
def KOk(l:List Tok)(K:Nat)(rd:RS->Option (St × RS)):Prop:=∀s st s',s.at_<=l.length->rd s=some (st,s')->RdC K [] l s s' (.agg (stU st))/\s'.at_<=l.length
theorem letK(hn:n<=100000){ex:RS->Option (Ex × RS)}(ta:RdOk l ex):KOk l 214 (letQ l n ex):=fun s st s' hs h=>by
 unfold letQ at h
 cases hh:zGl l s 3 with
 |true=>
  rw[hh,if_pos rfl]at h
  cases h
 |false=>
  rw[hh,if_neg (by simp)]at h
  obtain⟨⟨e,s1⟩,he,h2⟩:=Option.map_eq_some_iff.1 h
  cases h2
  obtain⟨lC,La⟩:=zbd hn ta (zm [(⟨#[61]⟩:BA)] _ (zAC (s:=s) 2 hs)) he
  refine⟨?_,zm _ _ La⟩
  rcases zEL hh with hb|⟨hb,hlt⟩|⟨hb,hlt,x,hx,hk⟩
  .exact zbf hs hb lC La rfl
  .exact zbg hs hb hlt lC La rfl
  exact zbh hs hb hlt hx hk lC La rfl
theorem zbi:KOk l 215 (zYG l):=fun s st s' hs h=>by
 unfold zYG at h;cases h
theorem zYN{ex:RS->Option (Ex × RS)}(ta:RdOk l ex){ka:Blk}(Fc:BkOk l ka):KOk l 216 (zNB l ex ka):=fun s st s' hs h=>by
 unfold zNB at h;split at h
 .cases h
 rename_i e s1 he
 obtain⟨eC,La⟩:=ta _ _ _ hs he
 split at h
 .cases h
 rename_i b s2 ri
 obtain⟨bC,Ra⟩:=zaQ Fc La ri
 cases hi:isP l s2 (⟨#[101,108,115,101]⟩:BA) 0 with
 |true=>
  rw[hi,if_pos rfl]at h
  cases h
 |false=>
  rw[hi,if_neg (by simp)]at h
  cases h;exact⟨zVT hs eC La bC Ra hi,Ra⟩
theorem zab{ex:RS->Option (Ex × RS)}(ta:RdOk l ex){ka:Blk}(Fc:BkOk l ka):KOk l 217 (zSi l ex ka):=fun s st s' hs h=>by
 unfold zSi at h;cases h
theorem zac{ka:Blk}(Fc:BkOk l ka):KOk l 219 (zSj l ka):=fun s st s' hs h=>by
 unfold zSj at h;cases h
theorem zad{ka:Blk}(Fc:BkOk l ka):KOk l 223 (zSk ka):=fun s st s' hs h=>by
 unfold zSk at h;cases h
theorem zbj(hn:n<=100000){ka:Blk}(Fc:BkOk l ka):KOk l 221 (zYH l n ka):=fun s st s' hs h=>by
 unfold zYH at h;cases h
theorem zae(hn:n<=100000){ka:Blk}(Fc:BkOk l ka):KOk l 218 (zSl l n ka):=fun s st s' hs h=>by
 unfold zSl at h;cases h
theorem zaf(hn:n<=100000){ex:RS->Option (Ex × RS)}(ta:RdOk l ex){ka:Blk}(Fc:BkOk l ka):KOk l 220 (zSm l n ex ka):=fun s st s' hs h=>by
 unfold zSm at h;cases h
theorem zbk:KOk l 222 (zYI l n):=fun s st s' hs h=>by
 unfold zYI at h;cases h
theorem zSp(hn:n<=100000)(hl:l.length<=1500){ex:RS->Option (Ex × RS)}(ta:RdOk l ex){ka:Blk}(Fc:BkOk l ka){s:RS}{r:Option St}{s':RS}(hs:s.at_<=l.length)(hb:s.bad=false)(h:zSn l n ex ka s=some (r,s')):s'.at_<=l.length/\zWE l s s' r:=by
 unfold zSn at h;rw[hb,if_neg (by simp)]at h
 cases hx:l[s.at_]? with
 |none=>
  rw[hx]at h;cases h
  have:=List.getElem?_eq_none_iff.1 hx
  exact⟨hs,rfl,zSh hs hb (by omega)⟩
 |some x=>
  rw[hx]at h
  have hlt:=(List.getElem?_eq_some_iff.1 hx).1
  dsimp only at h
  have key:∀{K:Nat} {rd:RS->Option (St × RS)},zHN x.text K->KOk l K rd->zGT l n ex ka x.text ⟨s.at_+1,s.bad,s.full⟩=some (rd ⟨s.at_+1,s.bad,s.full⟩)->s'.at_<=l.length/\zWE l s s' r:=by
   intro K rd hK Ma hw;rw[<-hb,hw]at h
   cases hr:rd ⟨s.at_+1,s.bad,s.full⟩with
   |none=>rw[hr]at h;cases h
   |some y=>
    obtain⟨st,s1⟩:=y
    rw[hr]at h;cases h
    obtain⟨kC,La⟩:=Ma _ _ _ (show(⟨s.at_+1,s.bad,s.full⟩:RS).at_<=l.length from hlt) hr
    exact⟨La,zPu (st:=st) hs hl hb hx hK kC⟩
  cases h0:sEq x.text (⟨#[108,101,116]⟩:BA)with
  |true=>exact key (zaR h0) (letK hn ta) (by unfold zGT;simp only[h0,Bool.false_eq_true,if_false,if_true];try rfl)
  |false=>
  cases h1:sEq x.text (⟨#[100,114,111,112]⟩:BA)with
  |true=>exact key (zaS h0 h1) (zbi) (by unfold zGT;simp only[h0,h1,Bool.false_eq_true,if_false,if_true];try rfl)
  |false=>
  cases h2:sEq x.text (⟨#[105,102]⟩:BA)with
  |true=>exact key (zaT h0 h1 h2) (zYN ta Fc) (by unfold zGT;simp only[h0,h1,h2,Bool.false_eq_true,if_false,if_true];try rfl)
  |false=>
  cases h3:sEq x.text (⟨#[119,104,105,108,101]⟩:BA)with
  |true=>exact key (zaU h0 h1 h2 h3) (zab ta Fc) (by unfold zGT;simp only[h0,h1,h2,h3,Bool.false_eq_true,if_false,if_true];try rfl)
  |false=>
  cases h4:sEq x.text (⟨#[109,97,116,99,104]⟩:BA)with
  |true=>exact key (zaV h0 h1 h2 h3 h4) (zae hn Fc) (by unfold zGT;simp only[h0,h1,h2,h3,h4,Bool.false_eq_true,if_false,if_true];try rfl)
  |false=>
  cases h5:sEq x.text (⟨#[115,99,111,112,101]⟩:BA)with
  |true=>exact key (zaW h0 h1 h2 h3 h4 h5) (zac Fc) (by unfold zGT;simp only[h0,h1,h2,h3,h4,h5,Bool.false_eq_true,if_false,if_true];try rfl)
  |false=>
  cases h6:sEq x.text (⟨#[115,112,97,119,110]⟩:BA)with
  |true=>exact key (zaX h0 h1 h2 h3 h4 h5 h6) (zaf hn ta Fc) (by unfold zGT;simp only[h0,h1,h2,h3,h4,h5,h6,Bool.false_eq_true,if_false,if_true];try rfl)
  |false=>
  cases h7:sEq x.text (⟨#[108,111,99,107]⟩:BA)with
  |true=>exact key (zaY h0 h1 h2 h3 h4 h5 h6 h7) (zbj hn Fc) (by unfold zGT;simp only[h0,h1,h2,h3,h4,h5,h6,h7,Bool.false_eq_true,if_false,if_true];try rfl)
  |false=>
  cases h8:sEq x.text (⟨#[99,104,97,110]⟩:BA)with
  |true=>exact key (zaZ h0 h1 h2 h3 h4 h5 h6 h7 h8) (zbk) (by unfold zGT;simp only[h0,h1,h2,h3,h4,h5,h6,h7,h8,Bool.false_eq_true,if_false,if_true];try rfl)
  |false=>
  cases h9:sEq x.text (⟨#[123]⟩:BA)with
  |true=>exact key (zaa h0 h1 h2 h3 h4 h5 h6 h7 h8 h9) (zad Fc) (by unfold zGT;simp only[h0,h1,h2,h3,h4,h5,h6,h7,h8,h9,Bool.false_eq_true,if_false,if_true];try rfl)
  |false=>
  have hw:zGT l n ex ka x.text ⟨s.at_+1,false,s.full⟩=none:=by
   unfold zGT;simp only[h0,h1,h2,h3,h4,h5,h6,h7,h8,h9,Bool.false_eq_true,if_false]
  rw[hw]at h;cases h;exact⟨hs,rfl,zPq hs hb hx (by simp[zIQ,h0,h1,h2,h3,h4,h5,h6,h7,h8,h9])⟩
end Go.Proofs.YtdflkegnmmkkoaaGreatDoor
namespace Go.Proofs.YtdflkegnmmkkoaaGreatDoor
open Go.RowKit _root_.Go.Proofs.Tryz
attribute [local simp] List.replicate List.range List.range.loop
variable{l:List Tok}
def zbl(l:List Tok)(s s':RS):Option St->Prop
 |some st=>RdC 176 [] l s s' (.tup [.agg (stU st),B true])\/(RdC 176 [] l s s (.tup [stZ,B false])/\RdC 177 [] l s s' (.tup [.agg (stU st),B true]))
 |none=>s'=s/\RdC 176 [] l s s (.tup [stZ,B false])/\∃nm q pos,RdC 177 [] l s s (.tup [stAs nm (.p q) pos,B false])
theorem zSq{n:Nat}(hn:n<=100000)(hl:l.length<=1500){ex:RS->Option (Ex × RS)}(ta:RdOk l ex){ka:Blk}(Fc:BkOk l ka){s:RS}{r:Option St}{s':RS}(hs:s.at_<=l.length)(hb:s.bad=false)(h:zIp l n ex ka s=some (r,s')):s'.at_<=l.length/\zbl l s s' r:=by
 unfold zIp at h;split at h
 .cases h
 .rename_i st s1 hf
  cases h
  obtain⟨a,b⟩:=zSp hn hl ta Fc hs hb hf
  exact⟨a,.inl b⟩
 rename_i s1 hf
 obtain⟨a,rfl,b⟩:=zSp hn hl ta Fc hs hb hf
 obtain⟨c,d⟩:=zVU hn ta hs hb h
 cases r with
 |some st=>exact⟨c,.inr ⟨b,d⟩⟩
 |none=>exact⟨c,d.1,b,d.2⟩
theorem zHj{n:Nat}(hn:n<=100000)(hl:l.length<=1500){ex:RS->Option (Ex × RS)}(ta:RdOk l ex){ka:Blk}(Fc:BkOk l ka){s:RS}{r:Option St}{s':RS}(hs:s.at_<=l.length)(hb:s.bad=false)(h:zIp l n ex ka s=some (r,s')):s'.at_<=l.length:=(zSq hn hl ta Fc hs hb h).1
theorem zL6{l:List Tok}(hl:l.length<=1500):∀(n:Nat),n<=100000->(∀m<n,BkOk l (zCP l m []))->∀(acc:List St) (s:RS) (b:List St) (s':RS),s.at_<=l.length->zCP l n acc s=some (b,s')->s'.at_<=l.length
 |0,hn,Fc,acc,s,b,s',hs,h=>by simp[zCP]at h
 |n+1,hn,Fc,acc,s,b,s',hs,h=>by
  unfold zCP at h
  have ih:=zL6 hl n (by omega) (fun m hm=>Fc m (by omega))
  have ta:=zOT hl (n:=n) (by omega)
  split at h
  .cases h;exact hs
  rename_i hb
  split at h
  .cases h;exact zA7 _ hs
  split at h
  .cases h
  .rename_i st s1 h1
   exact ih _ _ _ _ (zHj (by omega) hl ta (Fc n (by omega)) hs (by simpa using hb) h1) h
  rename_i s1 h1
  have La:=zHj (by omega) hl ta (Fc n (by omega)) hs (by simpa using hb) h1
  split at h
  .cases h
  rename_i e s2 h2
  exact ih _ _ _ _ (zm _ _ (ta _ _ _ La h2).2) h
structure XS where
 acc:List St
 rw:List (List PV)
def XS.ok(x:XS):Prop:=LeRows x.rw (x.acc.map St.enc)
abbrev zPv:PV:=.v (.slice none 0 0)
abbrev rowE(e:Ex)(pos:Int):List PV:=[pU 4,pS emS,pS emS,zPv,pU 0,pS emS,zPv,pI 0,pS emS,zPv,.sl 8 [e.enc],zPv,zPv,zPv,pI pos]
def XS.add(x:XS)(st:St):XS:=⟨x.acc++[st],x.rw++[st.enc]⟩
def XS.addE(x:XS)(e:Ex)(pos:Int):XS:=⟨x.acc++[(st0 4 emS emS [e] [] []).at pos],x.rw++[rowE e pos]⟩
theorem zPw(l:List (List PV)){c d:List PV}(h:LeRow c d):LeRows (l++[c]) (l++[d]):=by
 induction l with
 |nil=>exact .cons h (.refl _)
 |cons a l ih=>exact .cons (.refl _) ih
theorem zPx{a b:List (List PV)}(h:LeRows a b):a.length=b.length:=by
 induction a generalizing b with
 |nil=>cases h;rfl
 |cons x a ih=>
  cases h with
  |refl=>rfl
  |cons h1 h2=>rw[List.length_cons,List.length_cons,ih h2]
theorem zGv{c d:List PV}(hc:LeRow c d):∀{a b:List (List PV)},LeRows a b->LeRows (a++[c]) (b++[d])
 | [],b,h=>by cases h;exact .cons hc (.refl _)
 |x::a,b,h=>by
  cases h with
  |refl=>exact zPw (x::a) hc
  |cons h1 h2=>exact .cons h1 (zGv hc h2)
theorem XS.add_ok{x:XS}(h:x.ok)(st:St):(x.add st).ok:=by
 unfold XS.ok XS.add;rw[List.map_append];exact zGv (.refl _) h
theorem XS.addE_ok{x:XS}(h:x.ok)(e:Ex)(pos:Int):(x.addE e pos).ok:=by
 unfold XS.ok XS.addE;rw[List.map_append];refine zGv ?_ h;rw[zCS]
 repeat' constructor
theorem XS.len{x:XS}(h:x.ok):x.rw.length=x.acc.length:=by rw[zPx h,List.length_map]
def zIs(l:List Tok):Nat->XS->RS->Option (XS × RS)
 |0,_,_=>none
 |n+1,x,s=>
  if s.bad=true then some (x,s)
  else if isP l s (⟨#[125]⟩:BA) 0=true then some (x,mayP l s (⟨#[125]⟩:BA))
  else match zIp l n (zAu l n 6) (zCP l n []) s with
   |none=>none
   |some (some st,s1)=>zIs l n (x.add st) s1
   |some (none,s1)=>match zAu l n 6 s1 with
    |none=>none
    |some (e,s2)=>zIs l n (x.addE e (zBd l s1)) (zAd l s2 [(⟨#[59]⟩:BA)])
theorem zIt{l:List Tok}:∀(n:Nat) (x:XS) (s:RS) (b:List St) (s':RS),x.ok->zCP l n x.acc s=some (b,s')->∃y,zIs l n x s=some (y,s')/\y.acc=b/\y.ok
 |0,x,s,b,s',ho,h=>by simp[zCP]at h
 |n+1,x,s,b,s',ho,h=>by
  unfold zCP at h;unfold zIs;split at h
  .rename_i hb;cases h;exact⟨x,by rw[if_pos hb],rfl,ho⟩
  rename_i hb
  rw[if_neg hb];split at h
  .rename_i hi;cases h;exact⟨x,by rw[if_pos hi],rfl,ho⟩
  rename_i hi
  rw[if_neg hi]
  cases Ba:zIp l n (zAu l n 6) (zCP l n []) s with
  |none=>rw[Ba]at h;cases h
  |some r=>
  obtain⟨r,s1⟩:=r
  rw[Ba]at h
  cases r with
  |some st=>exact zIt n _ s1 b s' (XS.add_ok ho st) h
  |none=>
   dsimp only at h ⊢
   cases he:zAu l n 6 s1 with
   |none=>rw[he]at h;cases h
   |some y=>
    obtain⟨e,s2⟩:=y
    rw[he]at h;exact zIt n _ _ b s' (XS.addE_ok ho e _) h
theorem zag(hl:l.length<=1500)(N:Nat)(hN:N<=100000)(Fc:∀m<N,BkOk l (zCP l m [])):BkOk l (zCP l N []):=fun s b s' hs h=>by
 have xd:=zL6 hl N hN Fc _ _ _ _ hs h
 obtain⟨y,h2,rfl,hy⟩:=zIt N ⟨[],[]⟩ s b s' (.refl _) h
 refine⟨RdC.less (r:=.p (.sl 15 y.rw)) (.p (.sl hy)) (RdC.intro fun S d i hR=>?_),xd⟩
 refine ADet.intro mixed call233 func233 rfl ?_;simp[ntmps233];refine zBA 49 15 (by decide) [] (fun a:Nat × XS × RS=>zIs l a.1 a.2.1 a.2.2=some (y,s')/\a.2.1.rw.length+a.1<=N/\a.2.2.at_<=l.length) (fun a=>([.ptr (d+1) i 0,.any,.any,.osl 15 a.2.1.rw 0 0]++List.replicate 40 .any)) (fun a=>[.tok 49 15 a.2.1.rw.length]::set2 S d i (rdO l a.2.2)) (fun a=>a.1) (N,⟨[],[]⟩,s) ⟨h2,by simp,hs⟩ ?_ ?_ ?_ ?_
 .simp
 .simp
 .rfl
 clear h h2
 rintro⟨k,acc,s4⟩ ⟨Ya,Fj,Va⟩
 simp only at Ya Fj Va
 cases k with
 |zero=>simp[zIs]at Ya
 |succ k=>
 unfold zIs at Ya
 have Ab:=(hR.upd s4 Va).o
 have ag:acc.rw.length+1<=4294967296:=by omega
 cases hb:s4.bad with
 |true=>
  rw[hb,if_pos rfl]at Ya;cases Ya
  simp[Ab,hb]
 |false=>
 rw[hb,if_neg (by simp)]at Ya
 simp[Ab,hb];refine cq ((mayW s4 (⟨#[125]⟩:BA)).at hR Va _) ?_
 cases hi:isP l s4 (⟨#[125]⟩:BA) 0 with
 |true=>
  rw[hi,if_pos rfl]at Ya;cases Ya
  simp
 |false=>
 rw[hi,if_neg (by simp)]at Ya
 rw[zIr hi]
 have ta:=zOT hl (n:=k) (by omega)
 have ri:=Fc k (by omega)
 cases Ba:zIp l k (zAu l k 6) (zCP l k []) s4 with
 |none=>rw[Ba]at Ya;cases Ya
 |some r=>
 obtain⟨r,s5⟩:=r
 rw[Ba]at Ya
 obtain⟨pf,qc⟩:=zSq (by omega) hl ta ri Va hb Ba
 cases r with
 |some st=>
  dsimp only at Ya qc
  simp
  rcases qc with fC|⟨fC,aC⟩
  .refine cq (fC.at hR Va _) ?_
   simp[ag];exact⟨k,acc.add st,s5,⟨Ya,by simp[XS.add];omega,pf⟩,by omega,by simp[XS.add,zCS],by simp[XS.add],rfl⟩
  refine cq (fC.at hR Va _) ?_
  simp;refine cq (aC.at hR Va _) ?_;simp[ag]
  exact⟨k,acc.add st,s5,⟨Ya,by simp[XS.add];omega,pf⟩,by omega,by simp[XS.add,zCS],by simp[XS.add],rfl⟩
 |none=>
  dsimp only at Ya qc
  obtain⟨rfl,fC,nm,q,pos,aC⟩:=qc
  cases he:zAu l k 6 s5 with
  |none=>rw[he]at Ya;cases Ya
  |some y=>
  obtain⟨e,s6⟩:=y
  rw[he]at Ya
  dsimp only at Ya
  obtain⟨eC,ic⟩:=ta _ _ _ Va he
  have Mf:=zm [(⟨#[59]⟩:BA)] _ ic
  simp;refine cq (fC.at hR Va _) ?_;simp;refine cq (aC.at hR Va _) ?_;simp;refine cq ((zAe s5).at hR Va _) ?_;simp;refine cq (eC.at hR Va _) ?_;simp;refine cq (zDg _ ic hR _ _ _) ?_;simp[ag];exact⟨k,acc.addE e (zBd l s5),_,⟨Ya,by simp[XS.addE];omega,Mf⟩,by omega,by simp[XS.addE,zf],by simp[XS.addE],rfl⟩
theorem zSr(hl:l.length<=1500):∀(N:Nat),N<=100000->BkOk l (zCP l N []):=fun N=>by
 induction N using Nat.strongRecOn with
 |_ N ih=>exact fun hN=>zag hl N hN fun m hm=>ih m hm (by omega)
attribute [local simp] List.forall_mem_cons List.contains_cons List.contains_nil List.find?
theorem zOU{l:List Tok}(hl:l.length<=1500):∀(n:Nat),n<=100000->∀(acc:List St) (s:RS) (b:List St × Ex) (s':RS),s.at_<=l.length->zJD l n acc s=some (b,s')->s'.at_<=l.length
 |0,hn,acc,s,b,s',hs,h=>by simp[zJD]at h
 |n+1,hn,acc,s,b,s',hs,h=>by
  unfold zJD at h
  have ih:=zOU hl n (by omega)
  have ta:=zOT hl (n:=n) (by omega)
  have Fc:=zSr hl n (by omega)
  split at h
  .cases h;exact hs
  rename_i hb
  split at h
  .cases h
  .rename_i st s1 h1
   exact ih _ _ _ _ (zHj (by omega) hl ta Fc hs (by simpa using hb) h1) h
  rename_i s1 h1
  have La:=zHj (by omega) hl ta Fc hs (by simpa using hb) h1
  split at h
  .cases h
  rename_i e s2 h2
  have Ra:=(ta _ _ _ La h2).2
  split at h
  .cases h;exact Ra
  exact ih _ _ _ _ (zm _ _ Ra) h
def zNE(l:List Tok):Nat->XS->RS->Option (Option (XS × Ex) × RS)
 |0,_,_=>none
 |n+1,x,s=>
  if s.bad=true then some (none,s)
  else match zIp l n (zAu l n 6) (zCP l n []) s with
   |none=>none
   |some (some st,s1)=>zNE l n (x.add st) s1
   |some (none,s1)=>match zAu l n 6 s1 with
    |none=>none
    |some (e,s2)=>if isP l s2 (⟨#[125]⟩:BA) 0=true then some (some (x,e),s2)else zNE l n (x.addE e (zBd l s1)) (zAd l s2 [(⟨#[59]⟩:BA)])
def zYO:Option (XS × Ex)->List AV
 |none=>[nilS,exZ]
 |some (x,e)=>[.p (.sl 15 x.rw),exV e]
def zWF(b:List St)(e:Ex):Option (XS × Ex)->Prop
 |none=>b=[]/\e=zFm
 |some (x,e1)=>x.ok/\x.acc=b/\e1=e
theorem zKk{l:List Tok}:∀(n:Nat) (x:XS) (s:RS) (b:List St) (e:Ex) (s':RS),x.ok->zJD l n x.acc s=some ((b,e),s')->∃y,zNE l n x s=some (y,s')/\zWF b e y
 |0,x,s,b,e,s',ho,h=>by simp[zJD]at h
 |n+1,x,s,b,e,s',ho,h=>by
  unfold zJD at h;unfold zNE;split at h
  .rename_i hb;cases h;exact⟨none,by rw[if_pos hb],rfl,rfl⟩
  rename_i hb
  rw[if_neg hb]
  cases Ba:zIp l n (zAu l n 6) (zCP l n []) s with
  |none=>rw[Ba]at h;cases h
  |some r=>
  obtain⟨r,s1⟩:=r
  rw[Ba]at h
  cases r with
  |some st=>exact zKk n _ s1 b e s' (XS.add_ok ho st) h
  |none=>
   dsimp only at h ⊢
   cases he:zAu l n 6 s1 with
   |none=>rw[he]at h;cases h
   |some y=>
    obtain⟨e1,s2⟩:=y
    rw[he]at h
    dsimp only at h ⊢
    cases hi:isP l s2 (⟨#[125]⟩:BA) 0 with
    |true=>
     rw[hi,if_pos rfl]at h;cases h
     exact⟨some (x,e),by rw[if_pos rfl],ho,rfl,rfl⟩
    |false=>
     rw[hi,if_neg (by simp)]at h
     rw[if_neg (by simp)]
     exact zKk n _ _ b e s' (XS.addE_ok ho e1 _) h
theorem zVV{b:List St}{e:Ex}{y:Option (XS × Ex)}(h:zWF b e y):LeAs (zYO y) [.p (.sl 15 (b.map St.enc)),exV e]:=by
 cases y with
 |none=>
  obtain⟨rfl,rfl⟩:=h
  exact .cons (.p (.nil 15)) (.cons zL4 (.refl _))
 |some z=>
  obtain⟨x,e1⟩:=z
  obtain⟨h1,rfl,rfl⟩:=h
  exact .cons (.p (.sl h1)) (.refl _)
theorem zah(hl:l.length<=1500)(N:Nat)(hN:N<=100000){s:RS}{b:List St}{e:Ex}{s':RS}(hs:s.at_<=l.length)(h:zJD l N [] s=some ((b,e),s')):RdC 143 [] l s s' (.tup [.p (.sl 15 (b.map St.enc)),exV e])/\s'.at_<=l.length:=by
 have xd:=zOU hl N hN _ _ _ _ hs h
 obtain⟨y,h2,hy⟩:=zKk N ⟨[],[]⟩ s b e s' (.refl _) h
 refine⟨RdC.lessT' (zVV hy) (RdC.intro fun S d i hR=>?_),xd⟩
 refine ADet.intro mixed call143 func143 rfl ?_;simp[ntmps143];refine zBA 49 15 (by decide) [.cells [.any,.any,.any,.any,.any,.any,.any,.any] 43] (fun a:Nat × XS × RS=>zNE l a.1 a.2.1 a.2.2=some (y,s')/\a.2.1.rw.length+a.1<=N/\a.2.2.at_<=l.length) (fun a=>([.ptr (d+1) i 0,.any,.any,.ptr 0 0 0,.osl 15 a.2.1.rw 0 1]++List.replicate 42 .any)) (fun a=>[.cells [.any,.any,.any,.any,.any,.any,.any,.any] 43,.tok 49 15 a.2.1.rw.length]::set2 S d i (rdO l a.2.2)) (fun a=>a.1) (N,⟨[],[]⟩,s) ⟨h2,by simp,hs⟩ ?_ ?_ ?_ ?_
 .simp
 .simp
 .rfl
 clear h h2
 rintro⟨k,acc,s4⟩ ⟨Ya,Fj,Va⟩
 simp only at Ya Fj Va
 cases k with
 |zero=>simp[zNE]at Ya
 |succ k=>
 unfold zNE at Ya
 have Ab:=(hR.upd s4 Va).o
 have ag:acc.rw.length+1<=4294967296:=by omega
 cases hb:s4.bad with
 |true=>
  rw[hb,if_pos rfl]at Ya;cases Ya
  simp[Ab,hb,zYO]
 |false=>
 rw[hb,if_neg (by simp)]at Ya
 simp[Ab,hb]
 have ta:=zOT hl (n:=k) (by omega)
 have ri:=zSr hl k (by omega)
 cases Ba:zIp l k (zAu l k 6) (zCP l k []) s4 with
 |none=>rw[Ba]at Ya;cases Ya
 |some r=>
 obtain⟨r,s5⟩:=r
 rw[Ba]at Ya
 obtain⟨pf,qc⟩:=zSq (by omega) hl ta ri Va hb Ba
 cases r with
 |some st=>
  dsimp only at Ya qc
  rcases qc with fC|⟨fC,aC⟩
  .refine cq (fC.at hR Va _) ?_
   simp[ag];exact⟨k,acc.add st,s5,⟨Ya,by simp[XS.add];omega,pf⟩,by omega,by simp[XS.add,zCS],by simp[XS.add],rfl⟩
  refine cq (fC.at hR Va _) ?_
  simp;refine cq (aC.at hR Va _) ?_;simp[ag]
  exact⟨k,acc.add st,s5,⟨Ya,by simp[XS.add];omega,pf⟩,by omega,by simp[XS.add,zCS],by simp[XS.add],rfl⟩
 |none=>
  dsimp only at Ya qc
  obtain⟨rfl,fC,nm,q,pos,aC⟩:=qc
  cases he:zAu l k 6 s5 with
  |none=>rw[he]at Ya;cases Ya
  |some y=>
  obtain⟨e1,s6⟩:=y
  rw[he]at Ya
  dsimp only at Ya
  obtain⟨eC,ic⟩:=ta _ _ _ Va he
  have Mf:=zm [(⟨#[59]⟩:BA)] _ ic
  have iC:=fun L=>isC ((hR.upd s6 ic).push L) (⟨#[125]⟩:BA) 0 (by omega)
  refine cq (fC.at hR Va _) ?_;simp;refine cq (aC.at hR Va _) ?_;simp;refine cq ((zAe s5).at hR Va _) ?_;simp;refine cq (eC.at hR Va _) ?_;simp;refine cq (iC _) ?_
  cases hi:isP l s6 (⟨#[125]⟩:BA) 0 with
  |true=>
   rw[hi,if_pos rfl]at Ya;cases Ya;simp;refine dB [] (by kernel_rfl) ?_
   simp[zYO]
  |false=>
   rw[hi,if_neg (by simp)]at Ya
   simp;refine cq (zDg _ ic hR _ _ _) ?_;simp[ag];exact⟨k,acc.addE e1 (zBd l s5),_,⟨Ya,by simp[XS.addE];omega,Mf⟩,by omega,by simp[XS.addE,zf],by simp[XS.addE],rfl⟩
end Go.Proofs.YtdflkegnmmkkoaaGreatDoor
