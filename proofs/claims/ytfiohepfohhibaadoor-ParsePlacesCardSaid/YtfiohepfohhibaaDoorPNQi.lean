/- A part of the proof. The statement is proved in the claim's last text. -/
import Derived.Test.YtfiohepfohhibaaDoorPNQh
import Derived.Test.YtfiohepfohhibaaDoorPNPt
set_option linter.unusedVariables false
set_option linter.unusedSimpArgs false
set_option maxRecDepth 100000
set_option maxHeartbeats 32000000
namespace Go.Proofs.YtfiohepfohhibaaDoor
open Go.RowKit
attribute [local simp] List.replicate List.range List.range.loop resA resOne retA virtL virtO virt_get markL markO markR_get rowA awpI_nil awpI_cons List.forall_mem_cons List.contains_cons List.contains_nil List.find? nextD_eq awpD_nil awpD_cons LCp LCl refL
theorem ADet.lessTq {P : Program} {F : FuncId} {xs : List AV} {S S' : ASt} {l l' : List AV} (hle : LeAs l l') (h : ADet P F xs S (.tup l) S') : ADet P F xs S (.tup l') S' :=
 ⟨h.1,fun Pr φ ys w hargs hR hne=>(h.2 Pr φ ys w hargs hR hne).mono fun e w' hp=>by
  obtain ⟨x,Pr',φ',h1,h2,h3,h4⟩:=hp
  refine ⟨x,Pr',φ',h1,h2,h3,?_⟩
  cases h4 with
  | tup k1 k2 =>
   obtain ⟨hl,hk⟩:=(leA_both (Pr:=Pr') (φ:=φ')).2 hle
   exact .tup (hl ▸ k1) fun j c y hc hy=>by
    obtain ⟨v,m1,m2⟩:=hk j c hc
    exact m2 (k2 j v y m1 hy)⟩
theorem RdC.lessT' {F : Nat} {args : List AV} {l : List Tok} {s s' : RS} {a b : List AV} (hle : LeAs a b) (h : RdC F args l s s' (.tup a)) : RdC F args l s s' (.tup b):=fun S d i hR=>ADet.lessTq hle (h S d i hR)
abbrev stP (st : St) (pos : Int) : AV:=.agg [U st.op,Sg st.name,Sg st.second,.p (strs st.names),U st.type.kind,Sg st.type.name,.p (.sl 3 (st.type.args.map Ty.enc)),I st.int,Sg st.place.name,.p (strs st.place.path),.p (.sl 8 (st.exprs.map Ex.enc)),.p (.sl 15 (st.body.map St.enc)),.p (.sl 15 (st.els.map St.enc)),.p (.sl 3 (st.arms.map Ar.enc)),I pos]
def WordF (w : ByteArray) (K : Nat) : Prop:=∀ d i : Nat,∃ j,mapFind .string (.string w) ((startK d i).map fun x=>(.string x.1,.fn (.func x.2) [.ptr d i 0] [])) 0 = some (some (j,.fn (.func K) [.ptr d i 0] []))
theorem word_0 {w : ByteArray}  (h0 : sEq w (⟨#[108,101,116]⟩ : ByteArray) = true) : WordF w 67:=fun d i=>by
 simp only [startK,List.map_cons,List.map_nil,mapFind_str,h0,Bool.false_eq_true,if_false,if_true]
 exact ⟨_,rfl⟩
theorem word_1 {w : ByteArray} (h0 : sEq w (⟨#[108,101,116]⟩ : ByteArray) = false) (h1 : sEq w (⟨#[100,114,111,112]⟩ : ByteArray) = true) : WordF w 68:=fun d i=>by
 simp only [startK,List.map_cons,List.map_nil,mapFind_str,h0,h1,Bool.false_eq_true,if_false,if_true]
 exact ⟨_,rfl⟩
theorem word_2 {w : ByteArray} (h0 : sEq w (⟨#[108,101,116]⟩ : ByteArray) = false) (h1 : sEq w (⟨#[100,114,111,112]⟩ : ByteArray) = false) (h2 : sEq w (⟨#[105,102]⟩ : ByteArray) = true) : WordF w 69:=fun d i=>by
 simp only [startK,List.map_cons,List.map_nil,mapFind_str,h0,h1,h2,Bool.false_eq_true,if_false,if_true]
 exact ⟨_,rfl⟩
theorem word_3 {w : ByteArray} (h0 : sEq w (⟨#[108,101,116]⟩ : ByteArray) = false) (h1 : sEq w (⟨#[100,114,111,112]⟩ : ByteArray) = false) (h2 : sEq w (⟨#[105,102]⟩ : ByteArray) = false) (h3 : sEq w (⟨#[119,104,105,108,101]⟩ : ByteArray) = true) : WordF w 70:=fun d i=>by
 simp only [startK,List.map_cons,List.map_nil,mapFind_str,h0,h1,h2,h3,Bool.false_eq_true,if_false,if_true]
 exact ⟨_,rfl⟩
theorem word_4 {w : ByteArray} (h0 : sEq w (⟨#[108,101,116]⟩ : ByteArray) = false) (h1 : sEq w (⟨#[100,114,111,112]⟩ : ByteArray) = false) (h2 : sEq w (⟨#[105,102]⟩ : ByteArray) = false) (h3 : sEq w (⟨#[119,104,105,108,101]⟩ : ByteArray) = false) (h4 : sEq w (⟨#[109,97,116,99,104]⟩ : ByteArray) = true) : WordF w 71:=fun d i=>by
 simp only [startK,List.map_cons,List.map_nil,mapFind_str,h0,h1,h2,h3,h4,Bool.false_eq_true,if_false,if_true]
 exact ⟨_,rfl⟩
theorem word_5 {w : ByteArray} (h0 : sEq w (⟨#[108,101,116]⟩ : ByteArray) = false) (h1 : sEq w (⟨#[100,114,111,112]⟩ : ByteArray) = false) (h2 : sEq w (⟨#[105,102]⟩ : ByteArray) = false) (h3 : sEq w (⟨#[119,104,105,108,101]⟩ : ByteArray) = false) (h4 : sEq w (⟨#[109,97,116,99,104]⟩ : ByteArray) = false) (h5 : sEq w (⟨#[115,99,111,112,101]⟩ : ByteArray) = true) : WordF w 72:=fun d i=>by
 simp only [startK,List.map_cons,List.map_nil,mapFind_str,h0,h1,h2,h3,h4,h5,Bool.false_eq_true,if_false,if_true]
 exact ⟨_,rfl⟩
theorem word_6 {w : ByteArray} (h0 : sEq w (⟨#[108,101,116]⟩ : ByteArray) = false) (h1 : sEq w (⟨#[100,114,111,112]⟩ : ByteArray) = false) (h2 : sEq w (⟨#[105,102]⟩ : ByteArray) = false) (h3 : sEq w (⟨#[119,104,105,108,101]⟩ : ByteArray) = false) (h4 : sEq w (⟨#[109,97,116,99,104]⟩ : ByteArray) = false) (h5 : sEq w (⟨#[115,99,111,112,101]⟩ : ByteArray) = false) (h6 : sEq w (⟨#[115,112,97,119,110]⟩ : ByteArray) = true) : WordF w 73:=fun d i=>by
 simp only [startK,List.map_cons,List.map_nil,mapFind_str,h0,h1,h2,h3,h4,h5,h6,Bool.false_eq_true,if_false,if_true]
 exact ⟨_,rfl⟩
theorem word_7 {w : ByteArray} (h0 : sEq w (⟨#[108,101,116]⟩ : ByteArray) = false) (h1 : sEq w (⟨#[100,114,111,112]⟩ : ByteArray) = false) (h2 : sEq w (⟨#[105,102]⟩ : ByteArray) = false) (h3 : sEq w (⟨#[119,104,105,108,101]⟩ : ByteArray) = false) (h4 : sEq w (⟨#[109,97,116,99,104]⟩ : ByteArray) = false) (h5 : sEq w (⟨#[115,99,111,112,101]⟩ : ByteArray) = false) (h6 : sEq w (⟨#[115,112,97,119,110]⟩ : ByteArray) = false) (h7 : sEq w (⟨#[108,111,99,107]⟩ : ByteArray) = true) : WordF w 74:=fun d i=>by
 simp only [startK,List.map_cons,List.map_nil,mapFind_str,h0,h1,h2,h3,h4,h5,h6,h7,Bool.false_eq_true,if_false,if_true]
 exact ⟨_,rfl⟩
theorem word_8 {w : ByteArray} (h0 : sEq w (⟨#[108,101,116]⟩ : ByteArray) = false) (h1 : sEq w (⟨#[100,114,111,112]⟩ : ByteArray) = false) (h2 : sEq w (⟨#[105,102]⟩ : ByteArray) = false) (h3 : sEq w (⟨#[119,104,105,108,101]⟩ : ByteArray) = false) (h4 : sEq w (⟨#[109,97,116,99,104]⟩ : ByteArray) = false) (h5 : sEq w (⟨#[115,99,111,112,101]⟩ : ByteArray) = false) (h6 : sEq w (⟨#[115,112,97,119,110]⟩ : ByteArray) = false) (h7 : sEq w (⟨#[108,111,99,107]⟩ : ByteArray) = false) (h8 : sEq w (⟨#[99,104,97,110]⟩ : ByteArray) = true) : WordF w 75:=fun d i=>by
 simp only [startK,List.map_cons,List.map_nil,mapFind_str,h0,h1,h2,h3,h4,h5,h6,h7,h8,Bool.false_eq_true,if_false,if_true]
 exact ⟨_,rfl⟩
theorem word_9 {w : ByteArray} (h0 : sEq w (⟨#[108,101,116]⟩ : ByteArray) = false) (h1 : sEq w (⟨#[100,114,111,112]⟩ : ByteArray) = false) (h2 : sEq w (⟨#[105,102]⟩ : ByteArray) = false) (h3 : sEq w (⟨#[119,104,105,108,101]⟩ : ByteArray) = false) (h4 : sEq w (⟨#[109,97,116,99,104]⟩ : ByteArray) = false) (h5 : sEq w (⟨#[115,99,111,112,101]⟩ : ByteArray) = false) (h6 : sEq w (⟨#[115,112,97,119,110]⟩ : ByteArray) = false) (h7 : sEq w (⟨#[108,111,99,107]⟩ : ByteArray) = false) (h8 : sEq w (⟨#[99,104,97,110]⟩ : ByteArray) = false) (h9 : sEq w (⟨#[123]⟩ : ByteArray) = true) : WordF w 76:=fun d i=>by
 simp only [startK,List.map_cons,List.map_nil,mapFind_str,h0,h1,h2,h3,h4,h5,h6,h7,h8,h9,Bool.false_eq_true,if_false,if_true]
 exact ⟨_,rfl⟩
theorem first_some {l : List Tok} {s s1 : RS} {x : Tok} {K : Nat} {st : St} (hs : s.at_ ≤ l.length) (hn : l.length ≤ 1500) (hb : s.bad = false) (hx : l[s.at_]? = some x) (hK : WordF x.text K) (kC : RdC K [] l ⟨s.at_ + 1,s.bad,s.full⟩ s1 (.agg (stU st))) : RdC 45 [] l s s1 (.tup [stP st x.pos,B true]):=RdC.intro fun S d i hR=>by
 have ho:=(hR.upd s hs).o
 have hlt:=(List.getElem?_eq_some_iff.1 hx).1
 have hlt' : ¬ (l.length : Int) ≤ (s.at_ : Int):=by omega
 have hlt2 : (s.at_ : Int) < (l.length : Int):=by omega
 have hpl:=placeP_eq hx
 obtain ⟨Q,hQ⟩ : ∃ Q,Q = s.at_ + 1:=⟨_,rfl⟩
 have hw : IntKind.i64.wrap ((s.at_ : Int) + 1) = (Q : Int):=by rw [hQ]; exact wrap_nat (b:=1) (by unfold maxLen; omega)
 rw [← hQ] at kC
 have hq5 : (⟨Q,s.bad,s.full⟩ : RS).at_ ≤ l.length:=by show Q ≤ _; omega
 have cA:=fun L=>kC.at hR hq5 L
 rw [hb] at cA
 clear hlt
 obtain ⟨j,hj⟩:=hK (d + 1) i
 refine ADet.intro mixed Tryd.call45 Tryd.func45 rfl ?_
 simp [Tryd.ntmps45]
 refine awp_draw [] (by kernel_rfl) (by kernel_rfl) ?_
 simp [ho,hb,hlt']
 refine awp_draw [(5,1),(9,1),(12,1)] (by kernel_rfl) (by kernel_rfl) ?_
 simp [ho,hb,hlt']
 refine ⟨_,_,startsC _ _ _ _,?_⟩
 simp [ho,hb,hlt2,hx,Tok.enc,mapS,hj]
 refine ⟨_,_,(placeRW s).at hR hs _,?_⟩
 rw [hpl]
 simp [ho,hb,hw]
 refine ⟨_,_,cA _,?_⟩
 simp
theorem assign_some {l : List Tok} {s s1 s2 s' : RS} {x : Tok} {p : Pl} {e : Ex} (hs : s.at_ ≤ l.length) (hb : s.bad = false) (hx : l[s.at_]? = some x) (hk : x.kind = 2) (hi : isP l s (⟨#[40]⟩ : ByteArray) 1 = false) (pC : RdC 60 [] l s s1 (plV p)) (hs1 : s1.at_ ≤ l.length) (hb1 : s1.bad = false) (hq : isP l s1 (⟨#[61]⟩ : ByteArray) 0 = true) (eC : RdC 47 [] l (mayP l s1 (⟨#[61]⟩ : ByteArray)) s2 (exV e)) (hs2 : s2.at_ ≤ l.length) (e1 : mustP l s2 [(⟨#[59]⟩ : ByteArray)] = s') : RdC 46 [] l s s' (.tup [.agg (stU (.mk 3 emS emS [] zeroT 0 p [e] [] [] [] x.pos)),B true]):=by
 subst e1
 refine RdC.lessT' (a:=[.agg [U 3,Sg emS,Sg emS,nilS,U 0,Sg emS,nilS,I 0,Sg p.name,.p (strs p.path),.p (.sl 8 ([e].map Ex.enc)),nilS,nilS,nilS,I x.pos],B true]) (.cons (by repeat' constructor) (.cons (.refl _) (.refl _))) (RdC.intro fun S d i hR=>?_)
 have ho:=(hR.upd s hs).o
 have hlt:=(List.getElem?_eq_some_iff.1 hx).1
 have hlt' : ¬ (l.length : Int) ≤ (s.at_ : Int):=by omega
 have hlt2 : (s.at_ : Int) < (l.length : Int):=by omega
 clear hlt
 have hpl:=placeP_eq hx
 have hm1:=mayP_le (s:=s1) (⟨#[61]⟩ : ByteArray) hs1
 have iC:=fun L=>isC ((hR.upd s hs).push L) (⟨#[40]⟩ : ByteArray) 1 (by omega)
 rw [hi] at iC
 have ho1:=(hR.upd s1 hs1).o
 refine ADet.intro mixed Tryd.call46 Tryd.func46 rfl ?_
 simp [Tryd.ntmps46,ho]
 refine ⟨_,_,(placeRW s).at hR hs _,?_⟩
 rw [hpl]
 simp
 refine awp_draw [] (by kernel_rfl) (by kernel_rfl) ?_
 simp [ho,hb,hlt',hlt2,hx,Tok.enc,hk]
 refine ⟨_,_,iC _,?_⟩
 simp
 refine ⟨_,_,pC.at hR hs _,?_⟩
 simp [ho1,hb1]
 refine ⟨_,_,(mayW s1 (⟨#[61]⟩ : ByteArray)).at hR hs1 _,?_⟩
 rw [hq]
 simp
 refine ⟨_,_,eC.at hR hm1 _,?_⟩
 simp
 refine ⟨_,_,mustP1 _ hs2 hR _ _ _,?_⟩
 simp [exEnc]
def AssignR (l : List Tok) (s s' : RS) : Option St → Prop
 | some st=>RdC 46 [] l s s' (.tup [.agg (stU st),B true])
 | none=>s' = s ∧ ∃ nm q pos,RdC 46 [] l s s (.tup [stAs nm (.p q) pos,B false])
def FirstR (l : List Tok) (s s' : RS) : Option St → Prop
 | some st=>RdC 45 [] l s s' (.tup [.agg (stU st),B true])
 | none=>s' = s ∧ RdC 45 [] l s s (.tup [stZ,B false])
theorem assignQW {n : Nat} (hn : n ≤ 100000) {l : List Tok} {ex : RS → Option (Ex × RS)} (hex : RdOk l ex) {s : RS} {r : Option St} {s' : RS} (hs : s.at_ ≤ l.length) (hb : s.bad = false) (h : assignQ l n ex s = some (r,s')) : s'.at_ ≤ l.length ∧ AssignR l s s' r:=by
 unfold assignQ at h
 rw [hb,if_neg (by simp)] at h
 cases hx : l[s.at_]? with
 | none =>
  rw [hx] at h
  cases h
  have:=List.getElem?_eq_none_iff.1 hx
  exact ⟨hs,rfl,_,_,_,assign_end hs hb (by omega)⟩
 | some x =>
  rw [hx] at h
  dsimp only at h
  split at h
  ·rename_i hk
   split at h
   ·cases h
   rename_i p s1 hp
   have hs1:=(pathP_le hs hp).1
   split at h
   ·rename_i hq
    obtain ⟨⟨e,s2⟩,he,h2⟩:=Option.map_eq_some_iff.1 h
    cases h2
    obtain ⟨eC,hs2⟩:=hex _ _ _ (mayP_le _ hs1) he
    exact ⟨mustP_le _ _ hs2,assign_some hs hb hx hk.1 hk.2 (pathW hn hs hp) hs1 hq.1 hq.2 eC hs2 rfl⟩
   ·rename_i hne
    cases h
    refine ⟨hs,rfl,_,_,_,assign_path hn hs hb hx hk.1 hk.2 hp ?_⟩
    cases hb1 : s1.bad with
    | true=>exact .inl rfl
    | false=>exact .inr ⟨rfl,by simpa [hb1] using hne⟩
  ·rename_i hk
   cases h
   refine ⟨hs,rfl,?_⟩
   by_cases hk2 : x.kind = 2
   ·exact ⟨_,_,_,assign_call hs hb hx hk2 (by simpa [hk2] using hk)⟩
   ·exact ⟨_,_,_,assign_kind hs hb hx hk2⟩
def KOk (l : List Tok) (K : Nat) (rd : RS → Option (St × RS)) : Prop:=∀ s st s',s.at_ ≤ l.length → rd s = some (st,s') → RdC K [] l s s' (.agg (stU st)) ∧ s'.at_ ≤ l.length
theorem letK {n : Nat} (hn : n ≤ 100000) {l : List Tok} {ex : RS → Option (Ex × RS)} (hex : RdOk l ex) : KOk l 67 (letQ l n ex):=fun s st s' hs h=>by
 unfold letQ at h
 cases hh : handP l s 3 with
 | true =>
  rw [hh,if_pos rfl] at h
  obtain ⟨hb,hlt,x,hx,hk⟩:=handP_true hh
  have hm2:=mustP_le [(⟨#[123]⟩ : ByteArray)] _ (takeP_le (s:=s) 3 hs)
  split at h
  ·cases h
  rename_i ns s2 hp
  have hs2:=listP_le nameQ_le hm2 hp
  have nC:=listNameC (K:=23) nameQ_le nameQW hn hm2 hp
  obtain ⟨⟨e,s3⟩,he,h2⟩:=Option.map_eq_some_iff.1 h
  cases h2
  obtain ⟨eC,hs3⟩:=hex _ _ _ (mustP_le [(⟨#[61]⟩ : ByteArray)] _ hs2) he
  exact ⟨let_4 hs hb hlt hx hk nC hs2 eC hs3 rfl,mustP_le _ _ hs3⟩
 | false =>
  rw [hh,if_neg (by simp)] at h
  obtain ⟨⟨e,s1⟩,he,h2⟩:=Option.map_eq_some_iff.1 h
  cases h2
  obtain ⟨lC,hs1⟩:=lentW hn hex (mustP_le [(⟨#[61]⟩ : ByteArray)] _ (takeP_le (s:=s) 2 hs)) he
  refine ⟨?_,mustP_le _ _ hs1⟩
  rcases handP_false hh with hb | ⟨hb,hlt⟩ | ⟨hb,hlt,x,hx,hk⟩
  ·exact let_1 hs hb lC hs1 rfl
  ·exact let_2 hs hb hlt lC hs1 rfl
  ·exact let_3 hs hb hlt hx hk lC hs1 rfl
theorem dropK {l : List Tok} : KOk l 68 (dropQ l):=fun s st s' hs h=>by
 unfold dropQ at h; cases h
 exact ⟨drop_1 hs rfl,mustP_le _ _ (takeP_le 2 hs)⟩
theorem branchK {l : List Tok} {ex : RS → Option (Ex × RS)} (hex : RdOk l ex) {inner : Blk} (hin : BkOk l inner) : KOk l 69 (branchQ l ex inner):=fun s st s' hs h=>by
 unfold branchQ at h
 split at h
 ·cases h
 rename_i e s1 he
 obtain ⟨eC,hs1⟩:=hex _ _ _ hs he
 split at h
 ·cases h
 rename_i b s2 hbk
 obtain ⟨bC,hs2⟩:=blockW hin hs1 hbk
 cases hi : isP l s2 (⟨#[101,108,115,101]⟩ : ByteArray) 0 with
 | true =>
  rw [hi,if_pos rfl] at h
  obtain ⟨⟨c,s3⟩,hc,h2⟩:=Option.map_eq_some_iff.1 h
  cases h2
  obtain ⟨cC,hs3⟩:=blockW hin (mayP_le _ hs2) hc
  exact ⟨branch_2 hs eC hs1 bC hs2 hi cC,hs3⟩
 | false =>
  rw [hi,if_neg (by simp)] at h
  cases h
  exact ⟨branch_1 hs eC hs1 bC hs2 hi,hs2⟩
theorem whileK {l : List Tok} {ex : RS → Option (Ex × RS)} (hex : RdOk l ex) {inner : Blk} (hin : BkOk l inner) : KOk l 70 (whileQ l ex inner):=fun s st s' hs h=>by
 unfold whileQ at h
 split at h
 ·cases h
 rename_i e s1 he
 obtain ⟨eC,hs1⟩:=hex _ _ _ hs he
 obtain ⟨⟨b,s2⟩,hbk,h2⟩:=Option.map_eq_some_iff.1 h
 cases h2
 obtain ⟨bC,hs2⟩:=blockW hin hs1 hbk
 exact ⟨while_1 hs eC hs1 bC,hs2⟩
theorem scopeK {l : List Tok} {inner : Blk} (hin : BkOk l inner) : KOk l 72 (scopeQ l inner):=fun s st s' hs h=>by
 unfold scopeQ at h
 obtain ⟨⟨b,s2⟩,hbk,h2⟩:=Option.map_eq_some_iff.1 h
 cases h2
 obtain ⟨bC,hs2⟩:=blockW hin hs hbk
 exact ⟨scope_1 hs bC,hs2⟩
theorem plainK {l : List Tok} {inner : Blk} (hin : BkOk l inner) : KOk l 76 (plainQ inner):=fun s st s' hs h=>by
 unfold plainQ at h
 obtain ⟨⟨b,s2⟩,hbk,h2⟩:=Option.map_eq_some_iff.1 h
 cases h2
 obtain ⟨bC,hs2⟩:=hin _ _ _ hs hbk
 exact ⟨plain_1 hs bC,hs2⟩
theorem lockK {n : Nat} (hn : n ≤ 100000) {l : List Tok} {inner : Blk} (hin : BkOk l inner) : KOk l 74 (lockQ l n inner):=fun s st s' hs h=>by
 unfold lockQ at h
 split at h
 ·cases h
 rename_i p s1 hp
 have hs1:=(pathP_le hs hp).1
 obtain ⟨⟨b,s2⟩,hbk,h2⟩:=Option.map_eq_some_iff.1 h
 cases h2
 obtain ⟨bC,hs2⟩:=blockW hin (takeP_le 2 (mustP_le [(⟨#[97,115]⟩ : ByteArray)] _ hs1)) hbk
 exact ⟨lock_1 hs (pathW hn hs hp) hs1 rfl bC,hs2⟩
theorem armQ_le {l : List Tok} {inner : Blk} (hin : BkOk l inner) {s : RS} {a : Ar} {s' : RS} (hs : s.at_ ≤ l.length) (h : armQ l inner s = some (a,s')) : s'.at_ ≤ l.length:=by
 unfold armQ at h
 dsimp only at h
 have hm6:=takeP_le (s:=s) 3 hs
 split at h
 ·obtain ⟨⟨b,s6⟩,hbk,he⟩:=Option.map_eq_some_iff.1 h
  cases he
  exact (blockW hin (mustP_le [(⟨#[61,62]⟩ : ByteArray)] _ (mustP_le [(⟨#[41]⟩ : ByteArray)] _ (takeP_le 2 (mayP_le _ hm6)))) hbk).2
 ·obtain ⟨⟨b,s6⟩,hbk,he⟩:=Option.map_eq_some_iff.1 h
  cases he
  exact (blockW hin (mustP_le [(⟨#[61,62]⟩ : ByteArray)] _ hm6) hbk).2
theorem armsQ_le {l : List Tok} {inner : Blk} (hin : BkOk l inner) : ∀ (n : Nat) (acc : List Ar) (s : RS) (xs : List Ar) (s' : RS),s.at_ ≤ l.length → armsQ l inner n acc s = some (xs,s') → s'.at_ ≤ l.length
 | 0,acc,s,xs,s',hs,h=>by simp [armsQ] at h
 | n + 1,acc,s,xs,s',hs,h=>by
  unfold armsQ at h
  split at h
  ·cases h; exact hs
  split at h
  ·cases h; exact mayP_le _ hs
  split at h
  ·cases h
  rename_i a s1 ha
  exact armsQ_le hin n _ s1 xs s' (armQ_le hin hs ha) h
theorem matchK {n : Nat} (hn : n ≤ 100000) {l : List Tok} {inner : Blk} (hin : BkOk l inner) : KOk l 71 (matchQ l n inner):=fun s st s' hs h=>by
 unfold matchQ at h
 dsimp only at h
 obtain ⟨⟨arms,s1⟩,ha,h2⟩:=Option.map_eq_some_iff.1 h
 cases h2
 have hs1:=armsQ_le hin n _ _ _ _ (mustP_le [(⟨#[123]⟩ : ByteArray)] _ (takeP_le 3 (mustP_le [(⟨#[58]⟩ : ByteArray)] _ (takeP_le 2 hs)))) ha
 exact ⟨match_1 hin hn hs rfl ha hs1,hs1⟩
theorem spawnK {n : Nat} (hn : n ≤ 100000) {l : List Tok} {ex : RS → Option (Ex × RS)} (hex : RdOk l ex) {inner : Blk} (hin : BkOk l inner) : KOk l 73 (spawnQ l n ex inner):=fun s st s' hs h=>by
 unfold spawnQ at h
 split at h
 ·cases h
 rename_i xs s1 hp
 have hm1:=mustP_le [(⟨#[40]⟩ : ByteArray)] _ hs
 have hle : ∀ s x s',s.at_ ≤ l.length → handQ l (lentQ l n ex) s = some (x,s') → s'.at_ ≤ l.length:=fun s x s' a b=>(handRW hn hex a b).2
 have lC:=listHdC (K:=86) hle (fun s x s' a b=>(handRW hn hex a b).1) hn hm1 hp
 have hs1:=listP_le hle hm1 hp
 obtain ⟨⟨b,s2⟩,hbk,h2⟩:=Option.map_eq_some_iff.1 h
 cases h2
 obtain ⟨bC,hs2⟩:=blockW hin hs1 hbk
 exact ⟨spawn_1 hs (listP_len hle hm1 hn hp) lC hs1 bC,hs2⟩
theorem chanK {n : Nat} {l : List Tok} : KOk l 75 (chanQ l n):=fun s st s' hs h=>by
 unfold chanQ at h
 split at h
 ·cases h
 rename_i t s1 ht
 have hm1:=mustP_le [(⟨#[60]⟩ : ByteArray)] _ hs
 have hs1:=kindP_le n l _ t s1 hm1 ht
 have tC:=kindRC n l _ t s1 hm1 ht
 dsimp only at h
 obtain ⟨v,hv,h2⟩:=Option.map_eq_some_iff.1 h
 cases h2
 refine ⟨chan_1 hs tC hs1 rfl hv rfl rfl rfl,mustP_le _ _ (takeP_le 2 (mustP_le _ _ (takeP_le 2 (mustP_le _ _ ?_))))⟩
 exact takeP_le (l:=l) 4 (mustP_le _ _ hs1)
theorem firstQW {n : Nat} (hn : n ≤ 100000) {l : List Tok} (hl : l.length ≤ 1500) {ex : RS → Option (Ex × RS)} (hex : RdOk l ex) {inner : Blk} (hin : BkOk l inner) {s : RS} {r : Option St} {s' : RS} (hs : s.at_ ≤ l.length) (hb : s.bad = false) (h : firstQ l n ex inner s = some (r,s')) : s'.at_ ≤ l.length ∧ FirstR l s s' r:=by
 unfold firstQ at h
 rw [hb,if_neg (by simp)] at h
 cases hx : l[s.at_]? with
 | none =>
  rw [hx] at h
  cases h
  have:=List.getElem?_eq_none_iff.1 hx
  exact ⟨hs,rfl,first_end hs hb (by omega)⟩
 | some x =>
  rw [hx] at h
  have hlt:=(List.getElem?_eq_some_iff.1 hx).1
  dsimp only at h
  have key : ∀ {K : Nat} {rd : RS → Option (St × RS)},WordF x.text K → KOk l K rd → wordQ l n ex inner x.text ⟨s.at_ + 1,s.bad,s.full⟩ = some (rd ⟨s.at_ + 1,s.bad,s.full⟩) → s'.at_ ≤ l.length ∧ FirstR l s s' r:=by
   intro K rd hK hrd hw
   rw [← hb,hw] at h
   cases hr : rd ⟨s.at_ + 1,s.bad,s.full⟩ with
   | none=>rw [hr] at h; cases h
   | some y =>
    obtain ⟨st,s1⟩:=y
    rw [hr] at h
    cases h
    obtain ⟨kC,hs1⟩:=hrd _ _ _ (show (⟨s.at_ + 1,s.bad,s.full⟩ : RS).at_ ≤ l.length from hlt) hr
    exact ⟨hs1,first_some (st:=st) hs hl hb hx hK kC⟩
  cases h0 : sEq x.text (⟨#[108,101,116]⟩ : ByteArray) with
  | true=>exact key (word_0 h0) (letK hn hex) (by unfold wordQ; simp only [h0,Bool.false_eq_true,if_false,if_true]; try rfl)
  | false =>
  cases h1 : sEq x.text (⟨#[100,114,111,112]⟩ : ByteArray) with
  | true=>exact key (word_1 h0 h1) (dropK) (by unfold wordQ; simp only [h0,h1,Bool.false_eq_true,if_false,if_true]; try rfl)
  | false =>
  cases h2 : sEq x.text (⟨#[105,102]⟩ : ByteArray) with
  | true=>exact key (word_2 h0 h1 h2) (branchK hex hin) (by unfold wordQ; simp only [h0,h1,h2,Bool.false_eq_true,if_false,if_true]; try rfl)
  | false =>
  cases h3 : sEq x.text (⟨#[119,104,105,108,101]⟩ : ByteArray) with
  | true=>exact key (word_3 h0 h1 h2 h3) (whileK hex hin) (by unfold wordQ; simp only [h0,h1,h2,h3,Bool.false_eq_true,if_false,if_true]; try rfl)
  | false =>
  cases h4 : sEq x.text (⟨#[109,97,116,99,104]⟩ : ByteArray) with
  | true=>exact key (word_4 h0 h1 h2 h3 h4) (matchK hn hin) (by unfold wordQ; simp only [h0,h1,h2,h3,h4,Bool.false_eq_true,if_false,if_true]; try rfl)
  | false =>
  cases h5 : sEq x.text (⟨#[115,99,111,112,101]⟩ : ByteArray) with
  | true=>exact key (word_5 h0 h1 h2 h3 h4 h5) (scopeK hin) (by unfold wordQ; simp only [h0,h1,h2,h3,h4,h5,Bool.false_eq_true,if_false,if_true]; try rfl)
  | false =>
  cases h6 : sEq x.text (⟨#[115,112,97,119,110]⟩ : ByteArray) with
  | true=>exact key (word_6 h0 h1 h2 h3 h4 h5 h6) (spawnK hn hex hin) (by unfold wordQ; simp only [h0,h1,h2,h3,h4,h5,h6,Bool.false_eq_true,if_false,if_true]; try rfl)
  | false =>
  cases h7 : sEq x.text (⟨#[108,111,99,107]⟩ : ByteArray) with
  | true=>exact key (word_7 h0 h1 h2 h3 h4 h5 h6 h7) (lockK hn hin) (by unfold wordQ; simp only [h0,h1,h2,h3,h4,h5,h6,h7,Bool.false_eq_true,if_false,if_true]; try rfl)
  | false =>
  cases h8 : sEq x.text (⟨#[99,104,97,110]⟩ : ByteArray) with
  | true=>exact key (word_8 h0 h1 h2 h3 h4 h5 h6 h7 h8) (chanK) (by unfold wordQ; simp only [h0,h1,h2,h3,h4,h5,h6,h7,h8,Bool.false_eq_true,if_false,if_true]; try rfl)
  | false =>
  cases h9 : sEq x.text (⟨#[123]⟩ : ByteArray) with
  | true=>exact key (word_9 h0 h1 h2 h3 h4 h5 h6 h7 h8 h9) (plainK hin) (by unfold wordQ; simp only [h0,h1,h2,h3,h4,h5,h6,h7,h8,h9,Bool.false_eq_true,if_false,if_true]; try rfl)
  | false =>
  have hw : wordQ l n ex inner x.text ⟨s.at_ + 1,false,s.full⟩ = none:=by
   unfold wordQ
   simp only [h0,h1,h2,h3,h4,h5,h6,h7,h8,h9,Bool.false_eq_true,if_false]
  rw [hw] at h
  cases h
  exact ⟨hs,rfl,first_none hs hb hx (by simp [startsK,h0,h1,h2,h3,h4,h5,h6,h7,h8,h9])⟩
end Go.Proofs.YtfiohepfohhibaaDoor
namespace Go.Proofs.YtfiohepfohhibaaDoor
open Go.RowKit
attribute [local simp] List.replicate List.range List.range.loop resA resOne retA AV.cuts AV.cut AObj.cut trim wkR wkT wkL wkN wkNR wkNL wkM wkMR wkML
def StepR (l : List Tok) (s s' : RS) : Option St → Prop
 | some st=>RdC 45 [] l s s' (.tup [.agg (stU st),B true]) ∨ (RdC 45 [] l s s (.tup [stZ,B false]) ∧ RdC 46 [] l s s' (.tup [.agg (stU st),B true]))
 | none=>s' = s ∧ RdC 45 [] l s s (.tup [stZ,B false]) ∧ ∃ nm q pos,RdC 46 [] l s s (.tup [stAs nm (.p q) pos,B false])
theorem stepQW {n : Nat} (hn : n ≤ 100000) {l : List Tok} (hl : l.length ≤ 1500) {ex : RS → Option (Ex × RS)} (hex : RdOk l ex) {inner : Blk} (hin : BkOk l inner) {s : RS} {r : Option St} {s' : RS} (hs : s.at_ ≤ l.length) (hb : s.bad = false) (h : stepQ l n ex inner s = some (r,s')) : s'.at_ ≤ l.length ∧ StepR l s s' r:=by
 unfold stepQ at h
 split at h
 ·cases h
 ·rename_i st s1 hf
  cases h
  obtain ⟨a,b⟩:=firstQW hn hl hex hin hs hb hf
  exact ⟨a,.inl b⟩
 ·rename_i s1 hf
  obtain ⟨a,rfl,b⟩:=firstQW hn hl hex hin hs hb hf
  obtain ⟨c,d⟩:=assignQW hn hex hs hb h
  cases r with
  | some st=>exact ⟨c,.inr ⟨b,d⟩⟩
  | none=>exact ⟨c,d.1,b,d.2⟩
theorem stepQ_le {n : Nat} (hn : n ≤ 100000) {l : List Tok} (hl : l.length ≤ 1500) {ex : RS → Option (Ex × RS)} (hex : RdOk l ex) {inner : Blk} (hin : BkOk l inner) {s : RS} {r : Option St} {s' : RS} (hs : s.at_ ≤ l.length) (hb : s.bad = false) (h : stepQ l n ex inner s = some (r,s')) : s'.at_ ≤ l.length:=(stepQW hn hl hex hin hs hb h).1
theorem innerQ_le {l : List Tok} (hl : l.length ≤ 1500) : ∀ (n : Nat),n ≤ 100000 → (∀ m < n,BkOk l (innerQ l m [])) → ∀ (acc : List St) (s : RS) (b : List St) (s' : RS),s.at_ ≤ l.length → innerQ l n acc s = some (b,s') → s'.at_ ≤ l.length
 | 0,hn,hin,acc,s,b,s',hs,h=>by simp [innerQ] at h
 | n + 1,hn,hin,acc,s,b,s',hs,h=>by
  unfold innerQ at h
  have ih:=innerQ_le hl n (by omega) (fun m hm=>hin m (by omega))
  have hex:=exprQW hl (n:=n) (by omega)
  split at h
  ·cases h; exact hs
  rename_i hb
  split at h
  ·cases h; exact mayP_le _ hs
  split at h
  ·cases h
  ·rename_i st s1 h1
   exact ih _ _ _ _ (stepQ_le (by omega) hl hex (hin n (by omega)) hs (by simpa using hb) h1) h
  ·rename_i s1 h1
   have hs1:=stepQ_le (by omega) hl hex (hin n (by omega)) hs (by simpa using hb) h1
   split at h
   ·cases h
   ·rename_i e s2 h2
    exact ih _ _ _ _ (mustP_le _ _ (hex _ _ _ hs1 h2).2) h
structure XS where
 acc : List St
 rw : List (List PV)
def XS.ok (x : XS) : Prop:=LeRows x.rw (x.acc.map St.enc)
abbrev nilQv : PV:=.v (.slice none 0 0)
abbrev rowE (e : Ex) (pos : Int) : List PV:=[pU 4,pS emS,pS emS,nilQv,pU 0,pS emS,nilQv,pI 0,pS emS,nilQv,.sl 8 [e.enc],nilQv,nilQv,nilQv,pI pos]
def XS.add (x : XS) (st : St) : XS:=⟨x.acc ++ [st],x.rw ++ [st.enc]⟩
def XS.addE (x : XS) (e : Ex) (pos : Int) : XS:=⟨x.acc ++ [(st0 4 emS emS [e] [] []).at pos],x.rw ++ [rowE e pos]⟩
theorem leRows_one (l : List (List PV)) {c d : List PV} (h : LeRow c d) : LeRows (l ++ [c]) (l ++ [d]):=by
 induction l with
 | nil=>exact .cons h (.refl _)
 | cons a l ih=>exact .cons (.refl _) ih
theorem leRows_len {a b : List (List PV)} (h : LeRows a b) : a.length = b.length:=by
 induction a generalizing b with
 | nil=>cases h; rfl
 | cons x a ih =>
  cases h with
  | refl=>rfl
  | cons h1 h2=>rw [List.length_cons,List.length_cons,ih h2]
theorem leRows_app {c d : List PV} (hc : LeRow c d) : ∀ {a b : List (List PV)},LeRows a b → LeRows (a ++ [c]) (b ++ [d])
 | [],b,h=>by cases h; exact .cons hc (.refl _)
 | x :: a,b,h=>by
  cases h with
  | refl=>exact leRows_one (x :: a) hc
  | cons h1 h2=>exact .cons h1 (leRows_app hc h2)
theorem XS.add_ok {x : XS} (h : x.ok) (st : St) : (x.add st).ok:=by
 unfold XS.ok XS.add
 rw [List.map_append]
 exact leRows_app (.refl _) h
theorem XS.addE_ok {x : XS} (h : x.ok) (e : Ex) (pos : Int) : (x.addE e pos).ok:=by
 unfold XS.ok XS.addE
 rw [List.map_append]
 refine leRows_app ?_ h
 rw [stEnc]
 repeat' constructor
theorem XS.len {x : XS} (h : x.ok) : x.rw.length = x.acc.length:=by rw [leRows_len h,List.length_map]
def innerE (l : List Tok) : Nat → XS → RS → Option (XS × RS)
 | 0,_,_=>none
 | n + 1,x,s =>
  if s.bad = true then some (x,s)
  else if isP l s (⟨#[125]⟩ : ByteArray) 0 = true then some (x,mayP l s (⟨#[125]⟩ : ByteArray))
  else match stepQ l n (strongQ l n 6) (innerQ l n []) s with
   | none=>none
   | some (some st,s1)=>innerE l n (x.add st) s1
   | some (none,s1)=>match strongQ l n 6 s1 with
    | none=>none
    | some (e,s2)=>innerE l n (x.addE e (placeP l s1)) (mustP l s2 [(⟨#[59]⟩ : ByteArray)])
theorem innerE_of {l : List Tok} : ∀ (n : Nat) (x : XS) (s : RS) (b : List St) (s' : RS),x.ok → innerQ l n x.acc s = some (b,s') → ∃ y,innerE l n x s = some (y,s') ∧ y.acc = b ∧ y.ok
 | 0,x,s,b,s',ho,h=>by simp [innerQ] at h
 | n + 1,x,s,b,s',ho,h=>by
  unfold innerQ at h
  unfold innerE
  split at h
  ·rename_i hb; cases h; exact ⟨x,by rw [if_pos hb],rfl,ho⟩
  rename_i hb
  rw [if_neg hb]
  split at h
  ·rename_i hi; cases h; exact ⟨x,by rw [if_pos hi],rfl,ho⟩
  rename_i hi
  rw [if_neg hi]
  cases hst : stepQ l n (strongQ l n 6) (innerQ l n []) s with
  | none=>rw [hst] at h; cases h
  | some r =>
  obtain ⟨r,s1⟩:=r
  rw [hst] at h
  cases r with
  | some st=>exact innerE_of n _ s1 b s' (XS.add_ok ho st) h
  | none =>
   dsimp only at h ⊢
   cases he : strongQ l n 6 s1 with
   | none=>rw [he] at h; cases h
   | some y =>
    obtain ⟨e,s2⟩:=y
    rw [he] at h
    exact innerE_of n _ _ b s' (XS.addE_ok ho e _) h
theorem innerW {l : List Tok} (hl : l.length ≤ 1500) (N : Nat) (hN : N ≤ 100000) (hin : ∀ m < N,BkOk l (innerQ l m [])) : BkOk l (innerQ l N []):=fun s b s' hs h=>by
 have hs':=innerQ_le hl N hN hin _ _ _ _ hs h
 obtain ⟨y,h2,rfl,hy⟩:=innerE_of N ⟨[],[]⟩ s b s' (.refl _) h
 refine ⟨RdC.less (r:=.p (.sl 15 y.rw)) (.p (.sl hy)) (RdC.intro fun S d i hR=>?_),hs'⟩
 refine ADet.intro mixed Tryd.call87 Tryd.func87 rfl ?_
 simp [Tryd.ntmps87]
 refine awp_loopG 65 15 (by decide) [] (fun a : Nat × XS × RS=>innerE l a.1 a.2.1 a.2.2 = some (y,s') ∧ a.2.1.rw.length + a.1 ≤ N ∧ a.2.2.at_ ≤ l.length) (fun a=>([.ptr (d + 1) i 0,.any,.any,.osl 15 a.2.1.rw 0 0] ++ List.replicate 40 .any)) (fun a=>[.tok 65 15 a.2.1.rw.length] :: set2 S d i (rdO l a.2.2)) (fun a=>a.1) (N,⟨[],[]⟩,s) ⟨h2,by simp,hs⟩ ?_ ?_ ?_ ?_
 ·simp
 ·simp
 ·rfl
 clear h h2
 rintro ⟨k,acc,s4⟩ ⟨hl1,hkn,hs4⟩
 simp only at hl1 hkn hs4
 cases k with
 | zero=>simp [innerE] at hl1
 | succ k =>
 unfold innerE at hl1
 have ho4:=(hR.upd s4 hs4).o
 have hap : acc.rw.length + 1 ≤ 4294967296:=by omega
 cases hb : s4.bad with
 | true =>
  rw [hb,if_pos rfl] at hl1
  cases hl1
  simp [ho4,hb]
 | false =>
 rw [hb,if_neg (by simp)] at hl1
 simp [ho4,hb]
 refine ⟨_,_,(mayW s4 (⟨#[125]⟩ : ByteArray)).at hR hs4 _,?_⟩
 cases hi : isP l s4 (⟨#[125]⟩ : ByteArray) 0 with
 | true =>
  rw [hi,if_pos rfl] at hl1
  cases hl1
  simp
 | false =>
 rw [hi,if_neg (by simp)] at hl1
 rw [mayP_no hi]
 have hex:=exprQW hl (n:=k) (by omega)
 have hbk:=hin k (by omega)
 cases hst : stepQ l k (strongQ l k 6) (innerQ l k []) s4 with
 | none=>rw [hst] at hl1; cases hl1
 | some r =>
 obtain ⟨r,s5⟩:=r
 rw [hst] at hl1
 obtain ⟨hs5,hcs⟩:=stepQW (by omega) hl hex hbk hs4 hb hst
 cases r with
 | some st =>
  dsimp only at hl1 hcs
  simp
  rcases hcs with fC | ⟨fC,aC⟩
  ·refine ⟨_,_,fC.at hR hs4 _,?_⟩
   simp [hap]
   exact ⟨k,acc.add st,s5,⟨hl1,by simp [XS.add]; omega,hs5⟩,by omega,by simp [XS.add,stEnc],by simp [XS.add],rfl⟩
  ·refine ⟨_,_,fC.at hR hs4 _,?_⟩
   simp
   refine ⟨_,_,aC.at hR hs4 _,?_⟩
   simp [hap]
   exact ⟨k,acc.add st,s5,⟨hl1,by simp [XS.add]; omega,hs5⟩,by omega,by simp [XS.add,stEnc],by simp [XS.add],rfl⟩
 | none =>
  dsimp only at hl1 hcs
  obtain ⟨rfl,fC,nm,q,pos,aC⟩:=hcs
  cases he : strongQ l k 6 s5 with
  | none=>rw [he] at hl1; cases hl1
  | some y =>
  obtain ⟨e,s6⟩:=y
  rw [he] at hl1
  dsimp only at hl1
  obtain ⟨eC,hs6⟩:=hex _ _ _ hs4 he
  have hs7:=mustP_le [(⟨#[59]⟩ : ByteArray)] _ hs6
  simp
  refine ⟨_,_,fC.at hR hs4 _,?_⟩
  simp
  refine ⟨_,_,aC.at hR hs4 _,?_⟩
  simp
  refine ⟨_,_,(placeRW s5).at hR hs4 _,?_⟩
  simp
  refine ⟨_,_,eC.at hR hs4 _,?_⟩
  simp
  refine ⟨_,_,mustP1 _ hs6 hR _ _ _,?_⟩
  simp [hap]
  exact ⟨k,acc.addE e (placeP l s5),_,⟨hl1,by simp [XS.addE]; omega,hs7⟩,by omega,by simp [XS.addE,exEnc],by simp [XS.addE],rfl⟩
theorem innerQW {l : List Tok} (hl : l.length ≤ 1500) : ∀ (N : Nat),N ≤ 100000 → BkOk l (innerQ l N []):=fun N=>by
 induction N using Nat.strongRecOn with
 | _ N ih=>exact fun hN=>innerW hl N hN fun m hm=>ih m hm (by omega)
end Go.Proofs.YtfiohepfohhibaaDoor
namespace Go.Proofs.YtfiohepfohhibaaDoor
open Go.RowKit
attribute [local simp] List.replicate List.range List.range.loop resA resOne retA AV.cuts AV.cut AObj.cut trim wkR wkT wkL wkN wkNR wkNL wkM wkMR wkML virtL virtO virt_get markL markO markR_get rowA awpI_nil awpI_cons List.forall_mem_cons List.contains_cons List.contains_nil List.find? nextD_eq awpD_nil awpD_cons LCp LCl refL
theorem bodyQ_le {l : List Tok} (hl : l.length ≤ 1500) : ∀ (n : Nat),n ≤ 100000 → ∀ (acc : List St) (s : RS) (b : List St × Ex) (s' : RS),s.at_ ≤ l.length → bodyQ l n acc s = some (b,s') → s'.at_ ≤ l.length
 | 0,hn,acc,s,b,s',hs,h=>by simp [bodyQ] at h
 | n + 1,hn,acc,s,b,s',hs,h=>by
  unfold bodyQ at h
  have ih:=bodyQ_le hl n (by omega)
  have hex:=exprQW hl (n:=n) (by omega)
  have hin:=innerQW hl n (by omega)
  split at h
  ·cases h; exact hs
  rename_i hb
  split at h
  ·cases h
  ·rename_i st s1 h1
   exact ih _ _ _ _ (stepQ_le (by omega) hl hex hin hs (by simpa using hb) h1) h
  ·rename_i s1 h1
   have hs1:=stepQ_le (by omega) hl hex hin hs (by simpa using hb) h1
   split at h
   ·cases h
   ·rename_i e s2 h2
    have hs2:=(hex _ _ _ hs1 h2).2
    split at h
    ·cases h; exact hs2
    ·exact ih _ _ _ _ (mustP_le _ _ hs2) h
def bodyE (l : List Tok) : Nat → XS → RS → Option (Option (XS × Ex) × RS)
 | 0,_,_=>none
 | n + 1,x,s =>
  if s.bad = true then some (none,s)
  else match stepQ l n (strongQ l n 6) (innerQ l n []) s with
   | none=>none
   | some (some st,s1)=>bodyE l n (x.add st) s1
   | some (none,s1)=>match strongQ l n 6 s1 with
    | none=>none
    | some (e,s2)=>if isP l s2 (⟨#[125]⟩ : ByteArray) 0 = true then some (some (x,e),s2) else bodyE l n (x.addE e (placeP l s1)) (mustP l s2 [(⟨#[59]⟩ : ByteArray)])
def bodyA : Option (XS × Ex) → List AV
 | none=>[nilS,exZ]
 | some (x,e)=>[.p (.sl 15 x.rw),exV e]
def BodyOk (b : List St) (e : Ex) : Option (XS × Ex) → Prop
 | none=>b = [] ∧ e = zeroX
 | some (x,e1)=>x.ok ∧ x.acc = b ∧ e1 = e
theorem bodyE_of {l : List Tok} : ∀ (n : Nat) (x : XS) (s : RS) (b : List St) (e : Ex) (s' : RS),x.ok → bodyQ l n x.acc s = some ((b,e),s') → ∃ y,bodyE l n x s = some (y,s') ∧ BodyOk b e y
 | 0,x,s,b,e,s',ho,h=>by simp [bodyQ] at h
 | n + 1,x,s,b,e,s',ho,h=>by
  unfold bodyQ at h
  unfold bodyE
  split at h
  ·rename_i hb; cases h; exact ⟨none,by rw [if_pos hb],rfl,rfl⟩
  rename_i hb
  rw [if_neg hb]
  cases hst : stepQ l n (strongQ l n 6) (innerQ l n []) s with
  | none=>rw [hst] at h; cases h
  | some r =>
  obtain ⟨r,s1⟩:=r
  rw [hst] at h
  cases r with
  | some st=>exact bodyE_of n _ s1 b e s' (XS.add_ok ho st) h
  | none =>
   dsimp only at h ⊢
   cases he : strongQ l n 6 s1 with
   | none=>rw [he] at h; cases h
   | some y =>
    obtain ⟨e1,s2⟩:=y
    rw [he] at h
    dsimp only at h ⊢
    cases hi : isP l s2 (⟨#[125]⟩ : ByteArray) 0 with
    | true =>
     rw [hi,if_pos rfl] at h
     cases h
     exact ⟨some (x,e),by rw [if_pos rfl],ho,rfl,rfl⟩
    | false =>
     rw [hi,if_neg (by simp)] at h
     rw [if_neg (by simp)]
     exact bodyE_of n _ _ b e s' (XS.addE_ok ho e1 _) h
theorem bodyA_le {b : List St} {e : Ex} {y : Option (XS × Ex)} (h : BodyOk b e y) : LeAs (bodyA y) [.p (.sl 15 (b.map St.enc)),exV e]:=by
 cases y with
 | none =>
  obtain ⟨rfl,rfl⟩:=h
  exact .cons (.p (.nil 15)) (.cons exZ_le (.refl _))
 | some z =>
  obtain ⟨x,e1⟩:=z
  obtain ⟨h1,rfl,rfl⟩:=h
  exact .cons (.p (.sl h1)) (.refl _)
theorem bodyQW {l : List Tok} (hl : l.length ≤ 1500) (N : Nat) (hN : N ≤ 100000) {s : RS} {b : List St} {e : Ex} {s' : RS} (hs : s.at_ ≤ l.length) (h : bodyQ l N [] s = some ((b,e),s')) : RdC 25 [] l s s' (.tup [.p (.sl 15 (b.map St.enc)),exV e]) ∧ s'.at_ ≤ l.length:=by
 have hs':=bodyQ_le hl N hN _ _ _ _ hs h
 obtain ⟨y,h2,hy⟩:=bodyE_of N ⟨[],[]⟩ s b e s' (.refl _) h
 refine ⟨RdC.lessT' (bodyA_le hy) (RdC.intro fun S d i hR=>?_),hs'⟩
 refine ADet.intro mixed Tryd.call25 Tryd.func25 rfl ?_
 simp [Tryd.ntmps25]
 refine awp_loopG 65 15 (by decide) [.cells [.any,.any,.any,.any,.any,.any,.any,.any] 46] (fun a : Nat × XS × RS=>bodyE l a.1 a.2.1 a.2.2 = some (y,s') ∧ a.2.1.rw.length + a.1 ≤ N ∧ a.2.2.at_ ≤ l.length) (fun a=>([.ptr (d + 1) i 0,.any,.any,.ptr 0 0 0,.osl 15 a.2.1.rw 0 1] ++ List.replicate 42 .any)) (fun a=>[.cells [.any,.any,.any,.any,.any,.any,.any,.any] 46,.tok 65 15 a.2.1.rw.length] :: set2 S d i (rdO l a.2.2)) (fun a=>a.1) (N,⟨[],[]⟩,s) ⟨h2,by simp,hs⟩ ?_ ?_ ?_ ?_
 ·simp
 ·simp
 ·rfl
 clear h h2
 rintro ⟨k,acc,s4⟩ ⟨hl1,hkn,hs4⟩
 simp only at hl1 hkn hs4
 cases k with
 | zero=>simp [bodyE] at hl1
 | succ k =>
 unfold bodyE at hl1
 have ho4:=(hR.upd s4 hs4).o
 have hap : acc.rw.length + 1 ≤ 4294967296:=by omega
 cases hb : s4.bad with
 | true =>
  rw [hb,if_pos rfl] at hl1
  cases hl1
  simp [ho4,hb,bodyA]
 | false =>
 rw [hb,if_neg (by simp)] at hl1
 simp [ho4,hb]
 have hex:=exprQW hl (n:=k) (by omega)
 have hbk:=innerQW hl k (by omega)
 cases hst : stepQ l k (strongQ l k 6) (innerQ l k []) s4 with
 | none=>rw [hst] at hl1; cases hl1
 | some r =>
 obtain ⟨r,s5⟩:=r
 rw [hst] at hl1
 obtain ⟨hs5,hcs⟩:=stepQW (by omega) hl hex hbk hs4 hb hst
 cases r with
 | some st =>
  dsimp only at hl1 hcs
  rcases hcs with fC | ⟨fC,aC⟩
  ·refine ⟨_,_,fC.at hR hs4 _,?_⟩
   simp [hap]
   exact ⟨k,acc.add st,s5,⟨hl1,by simp [XS.add]; omega,hs5⟩,by omega,by simp [XS.add,stEnc],by simp [XS.add],rfl⟩
  ·refine ⟨_,_,fC.at hR hs4 _,?_⟩
   simp
   refine ⟨_,_,aC.at hR hs4 _,?_⟩
   simp [hap]
   exact ⟨k,acc.add st,s5,⟨hl1,by simp [XS.add]; omega,hs5⟩,by omega,by simp [XS.add,stEnc],by simp [XS.add],rfl⟩
 | none =>
  dsimp only at hl1 hcs
  obtain ⟨rfl,fC,nm,q,pos,aC⟩:=hcs
  cases he : strongQ l k 6 s5 with
  | none=>rw [he] at hl1; cases hl1
  | some y =>
  obtain ⟨e1,s6⟩:=y
  rw [he] at hl1
  dsimp only at hl1
  obtain ⟨eC,hs6⟩:=hex _ _ _ hs4 he
  have hs7:=mustP_le [(⟨#[59]⟩ : ByteArray)] _ hs6
  have iC:=fun L=>isC ((hR.upd s6 hs6).push L) (⟨#[125]⟩ : ByteArray) 0 (by omega)
  refine ⟨_,_,fC.at hR hs4 _,?_⟩
  simp
  refine ⟨_,_,aC.at hR hs4 _,?_⟩
  simp
  refine ⟨_,_,(placeRW s5).at hR hs4 _,?_⟩
  simp
  refine ⟨_,_,eC.at hR hs4 _,?_⟩
  simp
  refine ⟨_,_,iC _,?_⟩
  cases hi : isP l s6 (⟨#[125]⟩ : ByteArray) 0 with
  | true =>
   rw [hi,if_pos rfl] at hl1
   cases hl1
   simp
   refine awp_draw [] (by kernel_rfl) (by kernel_rfl) ?_
   simp [bodyA]
  | false =>
   rw [hi,if_neg (by simp)] at hl1
   simp
   refine ⟨_,_,mustP1 _ hs6 hR _ _ _,?_⟩
   simp [hap]
   exact ⟨k,acc.addE e1 (placeP l s5),_,⟨hl1,by simp [XS.addE]; omega,hs7⟩,by omega,by simp [XS.addE,exEnc],by simp [XS.addE],rfl⟩
end Go.Proofs.YtfiohepfohhibaaDoor
