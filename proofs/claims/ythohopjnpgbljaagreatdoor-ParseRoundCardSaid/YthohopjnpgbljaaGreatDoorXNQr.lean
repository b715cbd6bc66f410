/- A part of the proof. The statement is proved in the claim's last text. -/
import Derived.Test.YthohopjnpgbljaaGreatDoorXMRdn
import Derived.Test.YthohopjnpgbljaaGreatDoorXNQj
import Derived.Test.YthohopjnpgbljaaGreatDoorXMLd
import Derived.Test.YthohopjnpgbljaaGreatDoorXMSm
import Derived.Test.YthohopjnpgbljaaGreatDoorXMWp
import Derived.Test.YthohopjnpgbljaaGreatDoorXMSh
set_option linter.unusedVariables false
set_option linter.unusedSimpArgs false
set_option maxRecDepth 100000
set_option maxHeartbeats 32000000
namespace Go.Proofs.YthohopjnpgbljaaGreatDoor
open Go.RowKit
theorem exSm_atm (g : Int → Int) : ∀ e : Ex,ExSm e → ExSm (e.atm g):=by
 refine Ex.ind fun e ih h=>?_
 obtain ⟨_,h1,h2,h3,h4,h5⟩:=h
 rw [exAtm]
 refine .mk _ h1 h2 h3 (by simpa [Ex.args] using h4) fun x hx=>?_
 obtain ⟨y,hy,rfl⟩:=List.mem_map.1 (show x ∈ e.args.map (Ex.atm g) from hx)
 exact ih y hy (h5 y hy)
theorem exSm_of (g : Int → Int) : ∀ e : Ex,ExSm (e.atm g) → ExSm e:=by
 refine Ex.ind fun e ih h=>?_
 rw [exAtm] at h
 cases h with
 | mk _ h1 h2 h3 h4 h5 =>
  refine .mk _ h1 h2 h3 (by simpa [Ex.args] using h4) fun x hx=>ih x hx (h5 _ ?_)
  show x.atm g ∈ e.args.map (Ex.atm g)
  exact List.mem_map.2 ⟨x,hx,rfl⟩
theorem exSm_key {e f : Ex} (h : ExSm e) (k : keyE f = keyE e) : ExSm f:=exSm_of (fun _=>0) f (by
 have:=exSm_atm (fun _=>0) e h
 show ExSm (keyE f)
 rw [k]; exact this)
mutual
theorem exDeep_atm (g : Int → Int) : ∀ e : Ex,(e.atm g).deep = e.deep
 | .mk op i n s p l a=>by rw [Ex.atm,Ex.deep,Ex.deep,exDeeps_atm g l]
theorem exDeeps_atm (g : Int → Int) : ∀ l : List Ex,Ex.deeps (Ex.atms g l) = Ex.deeps l
 | []=>by rw [Ex.atms]
 | x :: l=>by rw [Ex.atms,Ex.deeps,Ex.deeps,exDeep_atm g x,exDeeps_atm g l]
end
theorem exDeep_key {e f : Ex} (k : keyE f = keyE e) : f.deep = e.deep:=by
 rw [← exDeep_atm (fun _=>0) f,← exDeep_atm (fun _=>0) e]
 exact congrArg Ex.deep k
def rIt (e : Ex) (pos : Int) : List It:=[⟨3,(⟨#[102]⟩ : ByteArray),[],.mk 1 emS [],[],e,pos⟩]
def zIt (e : Ex) : List It:=[⟨0,emS,[],.mk 0 emS [],[],e,0⟩]
theorem it_deep1 (k : Int) (nm : ByteArray) (t : Int) (e : Ex) (pos : Int) : itsDeep [⟨k,nm,[],.mk t emS [],[],e,pos⟩] = max 1 e.deep + 2:=by
 have h1 : (Ty.mk t emS []).deep = 1:=rfl
 have : itsDeep [⟨k,nm,[],.mk t emS [],[],e,pos⟩] = max ((max (max (max (Ty.mk t emS []).deep e.deep) 0) 0) + 1) 0 + 1:=rfl
 rw [this,h1]; omega
theorem rIt_deep {e f : Ex} (k : keyE f = keyE e) (pos : Int) : itsDeep (rIt f pos) = itsDeep (zIt e):=by
 unfold rIt zIt
 rw [it_deep1,it_deep1,exDeep_key k]
theorem it_sm1 (k : Int) (nm : ByteArray) (hn : nm.size ≤ 20000) (t : Int) {e : Ex} (he : ExSm e) (pos : Int) : PrSm [⟨k,nm,[],.mk t emS [],[],e,pos⟩]:=by
 refine ⟨by simp,fun x hx=>?_⟩
 obtain rfl : x = ⟨k,nm,[],.mk t emS [],[],e,pos⟩:=by simpa using hx
 exact ⟨hn,⟨by simp,nofun⟩,.mk _ (by show emS.size ≤ 20000; decide) (by simp [Ty.args]) (by simp [Ty.args]),⟨by simp,nofun⟩,he⟩
theorem whole_deep {e : Ex} (h : e.whole 40 = true) : e.deep ≤ 40:=by
 have:=ex_deep_le e 40 h
 omega
theorem round_lex {e : Ex} {d : Int} (hw : e.whole d = true) (hrg : ExRg e) (n : Nat) : ∃ f l,betwF f (roundB n (lineB e.tk)).data.toList = some 0 ∧ lexF f 0 ((roundB n (lineB e.tk)).data.toList.drop 0) = some l ∧ l.length = (roundTk n e.tk).length:=by
 have hg : ∀ t ∈ e.tk,goodB t = true:=List.all_eq_true.1 (good_exs hw hrg)
 obtain ⟨t,ts,htk,_⟩:=ex_head e ⟨d,hw⟩
 have hne : e.tk ≠ []:=by rw [htk]; simp
 have hL : (roundL n e.tk).length = (roundTk n e.tk).length:=by rw [← round_fst,List.length_map]
 have hok:=round_ok n hg
 have hb:=round_bytes n hne
 obtain ⟨l,e1,e2,e3⟩:=lex_opt (roundL n e.tk) 0 0 hok
 rw [hb] at e1
 refine ⟨0 + (roundL n e.tk).length + 3,l,?_,?_,?_⟩
 ·rw [← hb]
  exact betw_O _ hok _
 ·rw [List.drop_zero]; exact e1
 ·rw [round_fst] at e2
  rw [← e2,List.length_map]
theorem programDC (n : Nat) (hn : n ≤ 100000) (s : ByteArray) (p : List It) (h : parseQ n s = some p) (hp : PrSm p) (hd : 40 < itsDeep p) (hd2 : itsDeep p ≤ 1000000) (S : ASt) : ADet Tryz.prog 8 [Sg s] S (.tup [noneP,oneP 50 0]) S:=by
 unfold parseQ at h
 split at h
 ·cases h
 rename_i hsz
 split at h
 ·cases h
 rename_i m hbt
 split at h
 ·cases h
 rename_i l hlx
 split at h
 ·cases h
 rename_i hll
 split at h
 ·cases h
 rename_i p' s1 hit
 split at h
 ·cases h
 rename_i hend
 cases h
 refine programGC n hn s (by omega) m hbt l hlx (by omega) p s1 hit (fun _ _=>⟨hp,hd2⟩) 50 0 ?_ S
 unfold refuseQ
 rw [if_neg (fun h=>hend (.inl h)),if_neg (fun h=>hend (.inr h)),if_pos hd]
end Go.Proofs.YthohopjnpgbljaaGreatDoor
namespace Go.Proofs.YthohopjnpgbljaaGreatDoor
open Go.RowKit
attribute [local simp] List.replicate List.range List.range.loop resA resOne retA
theorem pureRun_bindE {P : Program} {α β : Type} (s : Sem α) (f : α → Sem β) (a : α) (h : pureRun P s = some a) : pureRun P (s >>= f) = pureRun P (f a):=by
 induction s with
 | pure b=>simp [pureRun] at h; subst h; rfl
 | program k ih=>exact ih P (by simpa [pureRun] using h)
 | mark m k ih=>exact ih (by simpa [pureRun] using h)
 | _=>simp [pureRun] at h
theorem pureRun_pureE {P : Program} {α : Type} (a : α) : pureRun P (Pure.pure a : Sem α) = some a:=rfl
theorem prun_underlyingE {P : Program} {t : TypeId} {d : TypeDesc} (h : P.underlying t = some d) : pureRun P (underlying t) = some d:=by
 unfold underlying
 rw [pureRun_bindE _ _ P rfl,h]
 rfl
theorem prun_partE {P : Program} {t : TypeId} {k : IntKind} (h : P.underlying t = some (.int k)) {cs : Array Value} {off : Nat} {v : Value} (hx : cs[off]? = some v) : pureRun P (part t cs off) = some v:=by
 unfold part
 have h1 : pureRun P (isAgg t) = some false:=by
  unfold isAgg
  rw [pureRun_bindE _ _ _ (prun_underlyingE h)]
  rfl
 rw [pureRun_bindE _ _ _ h1]
 simp [hx]
 rfl
theorem prun_intE {P : Program} {t : TypeId} {k kk : IntKind} (h : P.underlying t = some (.int k)) (n : Nat) (a b : Int) : pureRun P (Op.equalIn (n + 1) t (.int kk a) (.int kk b)) = some (a == b):=by
 rw [Op.equalIn,pureRun_bindE _ _ _ (prun_underlyingE h)]
 simp [pureRun_pureE]
theorem prun_equal2E {P : Program} {t : TypeId} {f0 f1 : Field} {k0 k1 k2 k3 : IntKind} (hu : P.underlying t = some (.struct #[f0,f1])) (h0 : P.underlying f0.type = some (.int k0)) (h1 : P.underlying f1.type = some (.int k1)) (n0 : f0.name ≠ "_") (n1 : f1.name ≠ "_") (o0 : f0.offset = 0) (o1 : f1.offset = 1) (hs : P.stoodInHeld t = false) (a b c d : Int) :
  pureRun P (Op.equal t (.agg #[.int k2 a,.int k3 b]) (.agg #[.int k2 c,.int k3 d])) = some (a == c && b == d):=by
 unfold Op.equal
 rw [show Op.maxDepth = 9998 + 1 + 1 from rfl,Op.equalIn,pureRun_bindE _ _ _ (prun_underlyingE hu)]
 have p0:=fun (x y : Value)=>prun_partE h0 (cs:=#[x,y]) (off:=0) (v:=x) rfl
 have p1:=fun (x y : Value)=>prun_partE h1 (cs:=#[x,y]) (off:=1) (v:=y) rfl
 have c0:=prun_intE h0 (kk:=k2) 9998 a c
 have c1:=prun_intE h1 (kk:=k3) 9998 b d
 simp only
 rw [pureRun_bindE _ _ P rfl,hs]
 simp [n0,n1,o0,o1]
 generalize (a == c) = x at *
 generalize (b == d) = y at *
 rw [pureRun_bindE _ _ _ (p0 _ _),pureRun_bindE _ _ _ (p0 _ _),pureRun_bindE _ _ _ c0]
 cases x
 ·rfl
 ·simp only [Bool.true_eq_false,if_false,pure_bind,bind_assoc,Bool.true_and]
  rw [pureRun_bindE _ _ _ (p1 _ _),pureRun_bindE _ _ _ (p1 _ _),pureRun_bindE _ _ _ c1]
  cases y <;> rfl
theorem equal_fltE (a b c d : Int) : pureRun Tryz.prog (Op.equal 70 (.agg #[.int .i64 a,.int .i64 b]) (.agg #[.int .i64 c,.int .i64 d])) = some (a == c && b == d):=by
 obtain ⟨f0,f1,hu,h0,h1,n0,n1,o0,o1,hs⟩:=keyS_spec (by kernel_rfl : keyS Tryz.prog 70 = some (.int .i64,.int .i64))
 exact prun_equal2E hu h0 h1 n0 n1 o0 o1 hs a b c d
theorem eq_fltE (x y : Operand) (a b c d : Int) : pureRun Tryz.prog (do eqGuard .eql 70 x y (.agg #[.int .i64 a,.int .i64 b]) (.agg #[.int .i64 c,.int .i64 d]); binOp .eql 70 (.agg #[.int .i64 a,.int .i64 b]) (.agg #[.int .i64 c,.int .i64 d]) : Sem Value) = some (.bool (a == c && b == d)):=by
 have h1 : pureRun Tryz.prog (eqGuard .eql 70 x y (.agg #[.int .i64 a,.int .i64 b]) (.agg #[.int .i64 c,.int .i64 d])) = some ():=by kernel_rfl
 rw [pureRun_bindE _ _ _ h1]
 show pureRun Tryz.prog (Op.equal 70 (.agg #[.int .i64 a,.int .i64 b]) (.agg #[.int .i64 c,.int .i64 d]) >>= fun r=>pure (Value.bool r)) = _
 rw [pureRun_bindE _ _ _ (equal_fltE a b c d)]
 rfl
theorem eq_opE (a b c d : Int) (dst : Option Tmp) (x y : Operand) (k ty : TypeId) (pos : String) (after : Array Edge) (guard : Option (Nat × Bool)) (fr : List AV) (hx : evA fr x = .agg [I a,I b]) (hy : evA fr y = .agg [I c,I d]) : genP Tryz.prog ⟨dst,.binOp .eql 70 x y k,ty,pos,after,guard⟩ fr = some (B (a == c && b == d)):=by
 have at2 : ∀ a b : Int,atomsAV [I a,I b] = some [.int .i64 a,.int .i64 b]:=fun _ _=>rfl
 have v1 : atomV (evA fr x) = some (.agg #[.int .i64 a,.int .i64 b]):=by rw [hx]; simp [atomV,at2]
 have v2 : atomV (evA fr y) = some (.agg #[.int .i64 c,.int .i64 d]):=by rw [hy]; simp [atomV,at2]
 have h1 : (noSel (.binOp .eql 70 x y k) && allAtoms fr (Op.operands (.binOp .eql 70 x y k)).toList) = true:=by
  show (true && allAtoms fr [x,y]) = true
  rw [Bool.true_and,allAtoms,allAtoms,allAtoms,v1,v2]
  rfl
 have h2 : pureRun Tryz.prog (execOp (fun z=>(atomV (evA fr z)).getD undef) ⟨dst,.binOp .eql 70 x y k,ty,pos,after,guard⟩) = some (.value (.bool (a == c && b == d))):=by
  have e1 : (atomV (evA fr x)).getD undef = .agg #[.int .i64 a,.int .i64 b]:=by rw [v1]; rfl
  have e2 : (atomV (evA fr y)).getD undef = .agg #[.int .i64 c,.int .i64 d]:=by rw [v2]; rfl
  unfold execOp
  simp only [e1,e2]
  exact pureRun_map _ _ _ (eq_fltE x y a b c d)
 unfold genP
 simp only
 rw [if_pos h1,h2]
 rfl
theorem faultC (e1 a1 e a : Int) (S : ASt) : ADet Tryz.prog 10 [oneP e1 a1,I e,I a] S (B (e1 == e && a1 == a)) S:=by
 unfold oneP
 refine ADet.intro mixed Tryz.call10 Tryz.func10 rfl ?_
 simp [Tryz.ntmps10,eq_opE e1 a1 e a]
theorem shortLongC (s : ByteArray) (hs : 4000 < s.size) (S : ASt) : ADet Tryz.prog 7 [Sg s] S (B false) S:=by
 have aC:=fun S=>allLongC s hs S
 refine ADet.intro mixed Tryz.call7 Tryz.func7 rfl ?_
 simp [Tryz.ntmps7]
 refine ⟨_,_,aC _,?_⟩
 simp
theorem shortC (s : ByteArray) (hs : s.size ≤ 4000) (f0 f m : Nat) (ts : List Tok) (hb : betwF f0 s.data.toList = some m) (hl : lexF f m (s.data.toList.drop m) = some ts) (S : ASt) : ADet Tryz.prog 7 [Sg s] S (B (decide (ts.length ≤ 1500))) S:=by
 have aC:=fun S=>allG s hs f0 f m ts hb hl S
 by_cases h : ts.length ≤ 1500
 ·simp only [if_pos h] at aC
  refine ADet.intro mixed Tryz.call7 Tryz.func7 rfl ?_
  simp [Tryz.ntmps7]
  refine ⟨_,_,aC _,?_⟩
  simp [h]
 ·simp only [if_neg h] at aC
  refine ADet.intro mixed Tryz.call7 Tryz.func7 rfl ?_
  simp [Tryz.ntmps7]
  refine ⟨_,_,aC _,?_⟩
  simp [h]
def tx1 : ByteArray:=(⟨#[102,110,32,102,40,97,58,32,105,110,116,41,32,45,62,32,105,110,116,32,123,32,97,32,43,32,40,49,41,32,125]⟩ : ByteArray)
def tx2 : ByteArray:=(⟨#[102,110,32,102,40,41,32,45,62,32,105,110,116,32,123,32,48,59,32,125]⟩ : ByteArray)
def tx3 : ByteArray:=(⟨#[102,110,32,102,40,41,32,45,62,32,105,110,116,32,123,32]⟩ : ByteArray)
def tx4 : ByteArray:=(⟨#[102,110,32,102,40,41,32,45,62,32,105,110,116,32,123,32,97,32,60,32,98,32,60,32,99,32,125]⟩ : ByteArray)
def tx5 : ByteArray:=(⟨#[102,110,32,102,40,41,32,45,62,32,105,110,116,32,123,32,99,104,97,110,60,105,110,116,62,40,57,41,32,97,115,32,115,44,32,114,59,32,48,32,125]⟩ : ByteArray)
def tx6 : ByteArray:=(⟨#[36]⟩ : ByteArray)
def px1 : List It:=[⟨3,(⟨#[102]⟩ : ByteArray),[⟨(⟨#[97]⟩ : ByteArray),.mk 1 emS []⟩],.mk 1 emS [],[],.mk 9 0 emS emS ⟨emS,[]⟩ [.mk 4 0 emS emS ⟨(⟨#[97]⟩ : ByteArray),[]⟩ [] 22,.mk 1 1 emS emS ⟨emS,[]⟩ [] 27] 24,0⟩]
theorem tx1_ok : parseQ 300 tx1 = some px1:=by kernel_rfl
theorem px1_ok : great px1 = false ∧ itsDeep px1 ≤ 40:=⟨by kernel_rfl,of_decide_eq_true (by kernel_rfl)⟩
theorem tx2_ok : refuN 300 tx2 = some (51,19):=by kernel_rfl
theorem tx3_ok : refuN 300 tx3 = some (51,16):=by kernel_rfl
theorem tx4_ok : refuN 300 tx4 = some (51,22):=by kernel_rfl
theorem tx5_ok : refuN 300 tx5 = some (4,0):=by kernel_rfl
theorem tx6_ok : betwF 300 tx6.data.toList = some 0 ∧ lexE 300 0 (tx6.data.toList.drop 0) = some 0:=⟨by kernel_rfl,by kernel_rfl⟩
theorem awake05C (S : ASt) : ADet Tryz.prog 4 [] S (B true) S:=by
 have c1 : ∀ S,ADet Tryz.prog 8 [Sg tx1] S (.tup [.agg [.p (.sl 16 [[pU 3,pS (⟨#[102]⟩ : ByteArray),.sl 4 [[pS (⟨#[97]⟩ : ByteArray),pU 1,pS emS,.sl 3 []]],pU 1,pS emS,.sl 3 [],.sl 15 [],pU 9,pI 0,pS emS,pS emS,pS emS,.sl 1 [],.sl 8 [[pU 4,pI 0,pS emS,pS emS,pS (⟨#[97]⟩ : ByteArray),.sl 1 [],.sl 8 [],pI 22],[pU 1,pI 1,pS emS,pS emS,pS emS,.sl 1 [],.sl 8 [],pI 27]],pI 24,pI 0]])],.p (.sl 2 [])]) S:=fun S=>(programQC 300 (by decide) tx1 px1 tx1_ok (pr_sm px1_ok.1) px1_ok.2 S).lessT (.cons (.refl _) (.cons (.p (.nil 2)) (.refl _)))
 have c2:=fun S=>programNC 300 (by decide) tx2 51 19 tx2_ok S
 have c3:=fun S=>programNC 300 (by decide) tx3 51 16 tx3_ok S
 have c4:=fun S=>programNC 300 (by decide) tx4 51 22 tx4_ok S
 have c5:=fun S=>programNC 300 (by decide) tx5 4 0 tx5_ok S
 have c6:=fun S=>programLexC tx6 (by decide) 300 300 0 0 tx6_ok.1 tx6_ok.2 S
 have f2:=fun S=>faultC 51 19 51 19 S
 have f3:=fun S=>faultC 51 16 51 16 S
 have f4:=fun S=>faultC 51 22 51 22 S
 have f5:=fun S=>faultC 4 0 4 0 S
 have f6:=fun S=>faultC 20 0 20 0 S
 simp only [tx1,tx2,tx3,tx4,tx5,tx6,noneP,oneP] at c1 c2 c3 c4 c5 c6 f2 f3 f4 f5 f6
 refine ADet.introS Tryz.call4 Tryz.func4 rfl ?_
 refine SWP.seq (SWP.of_awp mixed ?_)
 simp [Tryz.ntmps4,seqS_normal]
 refine SWP.seq (SWP.of_awp mixed ?_)
 simp
 refine ⟨_,_,c1 _,?_⟩
 simp [seqS_normal]
 refine SWP.seq (SWP.of_awp mixed ?_)
 simp
 refine ⟨_,_,c2 _,?_⟩
 simp [seqS_normal]
 refine SWP.seq (SWP.of_awp mixed ?_)
 simp
 refine ⟨_,_,c3 _,?_⟩
 simp [seqS_normal]
 refine SWP.seq (SWP.of_awp mixed ?_)
 simp
 refine ⟨_,_,c4 _,?_⟩
 simp [seqS_normal]
 refine SWP.seq (SWP.of_awp mixed ?_)
 simp
 refine ⟨_,_,c5 _,?_⟩
 simp [seqS_normal]
 refine SWP.seq (SWP.of_awp mixed ?_)
 simp
 refine ⟨_,_,c6 _,?_⟩
 simp [seqS_normal]
 refine SWP.seq (SWP.of_awp mixed ?_)
 simp [seqS_normal]
 refine SWP.seq (SWP.of_awp mixed ?_)
 simp [seqS_normal]
 refine SWP.of_awp mixed ?_
 simp
 refine ⟨_,_,f2 _,?_⟩
 simp
 refine ⟨_,_,f3 _,?_⟩
 simp
 refine ⟨_,_,f4 _,?_⟩
 simp
 refine ⟨_,_,f5 _,?_⟩
 simp
 refine ⟨_,_,f6 _,?_⟩
 simp
end Go.Proofs.YthohopjnpgbljaaGreatDoor
namespace Go.Proofs.YthohopjnpgbljaaGreatDoor
open Go.RowKit
attribute [local simp] List.replicate List.range List.range.loop resA resOne retA AV.cuts AV.cut AObj.cut trim wkR wkT wkL wkN wkNR wkNL wkM wkMR wkML virtL virtO virt_get markL markO markR_get rowA awpI_nil awpI_cons List.forall_mem_cons List.contains_cons List.contains_nil List.find? nextD_eq awpD_nil awpD_cons LCp LCl refL
theorem rep_succ (c : UInt8) (q : Nat) : repB c (q + 1) = repB c q ++ ⟨#[c]⟩:=by
 have h : List.replicate (q + 1) c = List.replicate q c ++ [c]:=List.replicate_succ'
 unfold repB
 rw [h]
 apply ByteArray.ext
 apply Array.ext'
 simp
theorem rep_size (c : UInt8) (q : Nat) : (repB c q).size = q:=by
 unfold repB
 show (List.replicate q c).toArray.size = q
 simp
theorem rep_zero (c : UInt8) : repB c 0 = emS:=rfl
theorem parseRoundC (e : Ex) (hrg : ExRg e) (n : Int) (S : ASt) : ADet Tryz.prog 3 [exV e,I n] S (B true) S:=by
 have wC:=awake05C
 have gC:=fun S=>greatExprC e S
 by_cases hg : e.room 20000 < 0
 ·simp only [hg,decide_true] at gC
  refine ADet.intro mixed Tryz.call3 Tryz.func3 rfl ?_
  simp [Tryz.ntmps3]
  refine ⟨_,_,wC _,?_⟩
  simp
  refine ⟨_,_,gC _,?_⟩
  simp
 simp only [hg,decide_false] at gC
 by_cases hn0 : n < 0
 ·refine ADet.intro mixed Tryz.call3 Tryz.func3 rfl ?_
  simp [Tryz.ntmps3]
  refine ⟨_,_,wC _,?_⟩
  simp
  refine ⟨_,_,gC _,?_⟩
  simp [hn0]
 by_cases hn20 : 20 < n
 ·refine ADet.intro mixed Tryz.call3 Tryz.func3 rfl ?_
  simp [Tryz.ntmps3]
  refine ⟨_,_,wC _,?_⟩
  simp
  refine ⟨_,_,gC _,?_⟩
  simp [hn0,hn20]
 obtain ⟨N,rfl⟩ : ∃ N : Nat,n = N:=⟨n.toNat,by omega⟩
 have hN : N ≤ 20:=by omega
 have hNm : N ≤ maxLen:=by unfold maxLen; omega
 have hroom : 0 ≤ e.room 20000:=by omega
 have hsm:=ex_sm e 20000 (by omega) (by omega) hroom
 have htl:=ex_tl e hrg 20000 hroom
 have sC:=fun S=>showExprC e hsm hrg (by omega) S
 cases hw : exWhole1 e with
 | false =>
  rw [hw] at sC
  simp only [Bool.false_eq_true,if_false] at sC
  refine ADet.intro mixed Tryz.call3 Tryz.func3 rfl ?_
  simp [Tryz.ntmps3]
  refine ⟨_,_,wC _,?_⟩
  simp
  refine ⟨_,_,gC _,?_⟩
  simp [hn0,hn20]
  refine ⟨_,_,sC _,?_⟩
  simp
 | true =>
 rw [hw] at sC
 simp only [if_true] at sC
 have hw':=hw
 unfold exWhole1 at hw'
 simp only [Bool.and_eq_true,Bool.not_eq_true'] at hw'
 obtain ⟨hlent,hwh⟩:=hw'
 have ht0:=ex_text hwh
 have hne : sEq (textOf e.tk) emS = false:=sEq_ne fun h=>by rw [h] at ht0; exact absurd ht0 (by decide)
 rw [textOf_line] at sC hne
 have hts : (lineB e.tk).size ≤ 100000:=Nat.le_trans (lineB_tl e.tk) (by omega)
 generalize ht : lineB e.tk = t at *
 refine ADet.intro mixed Tryz.call3 Tryz.func3 rfl ?_
 simp [Tryz.ntmps3]
 refine ⟨_,_,wC _,?_⟩
 simp
 refine ⟨_,_,gC _,?_⟩
 simp [hn0,hn20]
 refine ⟨_,_,sC _,?_⟩
 simp [hne]
 refine awp_loop (fun q : Nat=>q ≤ N) (fun q=>([.any,I N,.ptr 0 0 0,.any,.any,Sg t,Sg (repB 40 q),Sg (repB 41 q),I q] ++ List.replicate 71 .any)) (fun q=>[.cells [U e.op,I e.int,Sg e.name,Sg e.second,Sg e.place.name,.p (strs e.place.path),.p (.sl 8 (e.args.map Ex.enc)),I e.pos] 27] :: S) (fun q=>N - q) 0 (Nat.zero_le _) ?_ ?_ ?_
 ·simp [rep_zero]
 ·simp
 intro q hq
 by_cases hlt : q < N
 ·have hlt' : (q : Int) < (N : Int):=by omega
  have hwr:=wrap_succ hlt
  have hmu : N - (q + 1) < N - q:=by omega
  have r1:=rep_succ 40 q
  have r2:=rep_succ 41 q
  have hc1 : (repB 40 q).size + (⟨#[40]⟩ : ByteArray).size ≤ maxLen:=by rw [rep_size]; show q + 1 ≤ _; omega
  have hc2 : (repB 41 q).size + (⟨#[41]⟩ : ByteArray).size ≤ maxLen:=by rw [rep_size]; show q + 1 ≤ _; omega
  simp [hlt',hc1,hc2]
  exact ⟨q + 1,hlt,hmu,r1.symm,r2.symm,hwr⟩
 have hlt' : ¬ (q : Int) < (N : Int):=by omega
 obtain rfl : N = q:=by omega
 clear hlt hq
 have hz1:=rep_size 40 N
 have hz2:=rep_size 41 N
 have hp1 : ((⟨#[102,110,32,102,32,40,32,41,32,45,62,32,105,110,116,32,123,32]⟩ : ByteArray) : ByteArray).size = 18:=rfl
 have hp2 : ((⟨#[32,125]⟩ : ByteArray) : ByteArray).size = 2:=rfl
 have hc3 : ((⟨#[102,110,32,102,32,40,32,41,32,45,62,32,105,110,116,32,123,32]⟩ : ByteArray) : ByteArray).size + (repB 40 N).size ≤ maxLen:=by rw [hz1,hp1]; unfold maxLen; omega
 have hc4 : ((⟨#[102,110,32,102,32,40,32,41,32,45,62,32,105,110,116,32,123,32]⟩ : ByteArray) : ByteArray).size + (repB 40 N).size + t.size ≤ maxLen:=by rw [hz1,hp1]; unfold maxLen; omega
 have hc5 : ((⟨#[102,110,32,102,32,40,32,41,32,45,62,32,105,110,116,32,123,32]⟩ : ByteArray) : ByteArray).size + (repB 40 N).size + t.size + (repB 41 N).size ≤ maxLen:=by rw [hz1,hz2,hp1]; unfold maxLen; omega
 have hc6 : ((⟨#[102,110,32,102,32,40,32,41,32,45,62,32,105,110,116,32,123,32]⟩ : ByteArray) : ByteArray).size + (repB 40 N).size + t.size + (repB 41 N).size + ((⟨#[32,125]⟩ : ByteArray) : ByteArray).size ≤ maxLen:=by rw [hz1,hz2,hp1,hp2]; unfold maxLen; omega
 have hru : (⟨#[102,110,32,102,32,40,32,41,32,45,62,32,105,110,116,32,123,32]⟩ : ByteArray) ++ repB 40 N ++ t ++ repB 41 N ++ (⟨#[32,125]⟩ : ByteArray) = roundB N t:=rfl
 simp [hlt',hc3,hc4,hc5,hc6]
 rw [hru]
 by_cases hsz : 4000 < (roundB N t).size
 ·refine ⟨_,_,shortLongC _ hsz _,?_⟩
  simp
 obtain ⟨f,l,hb,hl,hll⟩:=round_lex hwh hrg N
 rw [ht] at hb hl
 have hsh:=fun S=>shortC (roundB N t) (by omega) f f 0 l hb hl S
 by_cases h15 : l.length ≤ 1500
 ·simp only [h15,decide_true] at hsh
  have hrp:=round_parse hwh hrg hlent N (by rw [ht]; omega) (by omega)
  rw [ht] at hrp
  obtain ⟨e',pos,hpq,hkey⟩:=hrp
  have hsm':=exSm_key hsm hkey
  have hps : PrSm (rIt e' pos):=it_sm1 3 _ (by decide) 1 hsm' pos
  have hpz : PrSm (zIt e):=it_sm1 0 _ (by decide) 0 hsm 0
  have hde:=whole_deep hwh
  have hdz : itsDeep (zIt e) = max 1 e.deep + 2:=it_deep1 _ _ _ _ _
  have hdr:=rIt_deep hkey pos
  have dC:=fun S=>depthAC (zIt e) hpz (by omega) S
  refine ⟨_,_,hsh _,?_⟩
  simp
  by_cases hd : itsDeep (zIt e) ≤ 40
  ·have hd' : ¬ (40 : Int) < (itsDeep (zIt e) : Int):=by omega
   have pC:=fun S=>(programQC 20000 (by decide) (roundB N t) (rIt e' pos) hpq hps (by omega) S).lessT (.cons (.refl _) (.cons (.p (.nil 2)) (.refl _)))
   have sE:=fun S=>sameExC e' e S true ⟨fun _=>hkey,fun _=>rfl⟩
   generalize itsDeep (zIt e) = D at *
   simp only [prog,rIt,zIt,List.map_cons,List.map_nil,It.enc] at pC dC
   refine ⟨_,_,pC _,?_⟩
   simp
   refine ⟨_,_,ADet.sub (.cons (.agg (.cons (.osl (.cons (by repeat' constructor) (.refl _))) (.refl _))) (.refl _)) (dC _),?_⟩
   simp [hd']
   refine awp_draw [] (by kernel_rfl) (by kernel_rfl) ?_
   simp
   refine ⟨_,_,sE _,?_⟩
   simp
  ·have hd' : (40 : Int) < (itsDeep (zIt e) : Int):=by omega
   have pC:=fun S=>programDC 20000 (by decide) (roundB N t) (rIt e' pos) hpq hps (by omega) (by omega) S
   have fC:=fun S=>faultC 50 0 50 0 S
   generalize itsDeep (zIt e) = D at *
   simp only [noneP,oneP] at pC fC
   simp only [prog,zIt,List.map_cons,List.map_nil,It.enc] at dC
   refine ⟨_,_,pC _,?_⟩
   simp
   refine ⟨_,_,ADet.sub (.cons (.agg (.cons (.osl (.cons (by repeat' constructor) (.refl _))) (.refl _))) (.refl _)) (dC _),?_⟩
   simp [hd']
   refine ⟨_,_,fC _,?_⟩
   simp
 ·simp only [h15,decide_false] at hsh
  refine ⟨_,_,hsh _,?_⟩
  simp
end Go.Proofs.YthohopjnpgbljaaGreatDoor
