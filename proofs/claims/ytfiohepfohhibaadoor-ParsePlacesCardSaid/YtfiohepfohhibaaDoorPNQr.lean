/- A part of the proof. The statement is proved in the claim's last text. -/
import Derived.Test.YtfiohepfohhibaaDoorPNQj
import Derived.Test.YtfiohepfohhibaaDoorPMLd
set_option linter.unusedVariables false
set_option linter.unusedSimpArgs false
set_option maxRecDepth 100000
set_option maxHeartbeats 32000000
namespace Go.Proofs.YtfiohepfohhibaaDoor
open Go.RowKit
attribute [local simp] List.replicate List.range List.range.loop resA resOne retA
theorem pureRun_bindE {P : Program} {α β : Type} (s : Sem α) (f : α → Sem β) (a : α) (h : pureRun P s = some a) : pureRun P (s >>= f) = pureRun P (f a):=by
 induction s with
 | pure b=>simp [pureRun] at h; subst h; rfl
 | program k ih=>exact ih P (by simpa [pureRun] using h)
 | mark m k ih=>exact ih (by simpa [pureRun] using h)
 | _=>simp [pureRun] at h
theorem pureRun_pureE {P : Program} {α : Type} (a : α) : pureRun P (Pure.pure a : Sem α) = some a:=rfl
theorem prun_underlyingE {P : Program} {t : TypeId} {d : TypeDesc} (h : P.underlying t = some d) : pureRun P (underlying t) = some d:=by
 unfold underlying
 rw [pureRun_bindE _ _ P rfl,h]
 rfl
theorem prun_partE {P : Program} {t : TypeId} {k : IntKind} (h : P.underlying t = some (.int k)) {cs : Array Value} {off : Nat} {v : Value} (hx : cs[off]? = some v) : pureRun P (part t cs off) = some v:=by
 unfold part
 have h1 : pureRun P (isAgg t) = some false:=by
  unfold isAgg
  rw [pureRun_bindE _ _ _ (prun_underlyingE h)]
  rfl
 rw [pureRun_bindE _ _ _ h1]
 simp [hx]
 rfl
theorem prun_intE {P : Program} {t : TypeId} {k kk : IntKind} (h : P.underlying t = some (.int k)) (n : Nat) (a b : Int) : pureRun P (Op.equalIn (n + 1) t (.int kk a) (.int kk b)) = some (a == b):=by
 rw [Op.equalIn,pureRun_bindE _ _ _ (prun_underlyingE h)]
 simp [pureRun_pureE]
theorem prun_equal2E {P : Program} {t : TypeId} {f0 f1 : Field} {k0 k1 k2 k3 : IntKind} (hu : P.underlying t = some (.struct #[f0,f1])) (h0 : P.underlying f0.type = some (.int k0)) (h1 : P.underlying f1.type = some (.int k1)) (n0 : f0.name ≠ "_") (n1 : f1.name ≠ "_") (o0 : f0.offset = 0) (o1 : f1.offset = 1) (hs : P.stoodInHeld t = false) (a b c d : Int) :
  pureRun P (Op.equal t (.agg #[.int k2 a,.int k3 b]) (.agg #[.int k2 c,.int k3 d])) = some (a == c && b == d):=by
 unfold Op.equal
 rw [show Op.maxDepth = 9998 + 1 + 1 from rfl,Op.equalIn,pureRun_bindE _ _ _ (prun_underlyingE hu)]
 have p0:=fun (x y : Value)=>prun_partE h0 (cs:=#[x,y]) (off:=0) (v:=x) rfl
 have p1:=fun (x y : Value)=>prun_partE h1 (cs:=#[x,y]) (off:=1) (v:=y) rfl
 have c0:=prun_intE h0 (kk:=k2) 9998 a c
 have c1:=prun_intE h1 (kk:=k3) 9998 b d
 simp only
 rw [pureRun_bindE _ _ P rfl,hs]
 simp [n0,n1,o0,o1]
 generalize (a == c) = x at *
 generalize (b == d) = y at *
 rw [pureRun_bindE _ _ _ (p0 _ _),pureRun_bindE _ _ _ (p0 _ _),pureRun_bindE _ _ _ c0]
 cases x
 ·rfl
 ·simp only [Bool.true_eq_false,if_false,pure_bind,bind_assoc,Bool.true_and]
  rw [pureRun_bindE _ _ _ (p1 _ _),pureRun_bindE _ _ _ (p1 _ _),pureRun_bindE _ _ _ c1]
  cases y <;> rfl
theorem equal_fltE (a b c d : Int) : pureRun Tryd.prog (Op.equal 34 (.agg #[.int .i64 a,.int .i64 b]) (.agg #[.int .i64 c,.int .i64 d])) = some (a == c && b == d):=by
 obtain ⟨f0,f1,hu,h0,h1,n0,n1,o0,o1,hs⟩:=keyS_spec (by kernel_rfl : keyS Tryd.prog 34 = some (.int .i64,.int .i64))
 exact prun_equal2E hu h0 h1 n0 n1 o0 o1 hs a b c d
theorem eq_fltE (x y : Operand) (a b c d : Int) : pureRun Tryd.prog (do eqGuard .eql 34 x y (.agg #[.int .i64 a,.int .i64 b]) (.agg #[.int .i64 c,.int .i64 d]); binOp .eql 34 (.agg #[.int .i64 a,.int .i64 b]) (.agg #[.int .i64 c,.int .i64 d]) : Sem Value) = some (.bool (a == c && b == d)):=by
 have h1 : pureRun Tryd.prog (eqGuard .eql 34 x y (.agg #[.int .i64 a,.int .i64 b]) (.agg #[.int .i64 c,.int .i64 d])) = some ():=by kernel_rfl
 rw [pureRun_bindE _ _ _ h1]
 show pureRun Tryd.prog (Op.equal 34 (.agg #[.int .i64 a,.int .i64 b]) (.agg #[.int .i64 c,.int .i64 d]) >>= fun r=>pure (Value.bool r)) = _
 rw [pureRun_bindE _ _ _ (equal_fltE a b c d)]
 rfl
theorem eq_opE (a b c d : Int) (dst : Option Tmp) (x y : Operand) (k ty : TypeId) (pos : String) (after : Array Edge) (guard : Option (Nat × Bool)) (fr : List AV) (hx : evA fr x = .agg [I a,I b]) (hy : evA fr y = .agg [I c,I d]) : genP Tryd.prog ⟨dst,.binOp .eql 34 x y k,ty,pos,after,guard⟩ fr = some (B (a == c && b == d)):=by
 have at2 : ∀ a b : Int,atomsAV [I a,I b] = some [.int .i64 a,.int .i64 b]:=fun _ _=>rfl
 have v1 : atomV (evA fr x) = some (.agg #[.int .i64 a,.int .i64 b]):=by rw [hx]; simp [atomV,at2]
 have v2 : atomV (evA fr y) = some (.agg #[.int .i64 c,.int .i64 d]):=by rw [hy]; simp [atomV,at2]
 have h1 : (noSel (.binOp .eql 34 x y k) && allAtoms fr (Op.operands (.binOp .eql 34 x y k)).toList) = true:=by
  show (true && allAtoms fr [x,y]) = true
  rw [Bool.true_and,allAtoms,allAtoms,allAtoms,v1,v2]
  rfl
 have h2 : pureRun Tryd.prog (execOp (fun z=>(atomV (evA fr z)).getD undef) ⟨dst,.binOp .eql 34 x y k,ty,pos,after,guard⟩) = some (.value (.bool (a == c && b == d))):=by
  have e1 : (atomV (evA fr x)).getD undef = .agg #[.int .i64 a,.int .i64 b]:=by rw [v1]; rfl
  have e2 : (atomV (evA fr y)).getD undef = .agg #[.int .i64 c,.int .i64 d]:=by rw [v2]; rfl
  unfold execOp
  simp only [e1,e2]
  exact pureRun_map _ _ _ (eq_fltE x y a b c d)
 unfold genP
 simp only
 rw [if_pos h1,h2]
 rfl
theorem faultC (e1 a1 e a : Int) (S : ASt) : ADet Tryd.prog 10 [oneP e1 a1,I e,I a] S (B (e1 == e && a1 == a)) S:=by
 unfold oneP
 refine ADet.intro mixed Tryd.call10 Tryd.func10 rfl ?_
 simp [Tryd.ntmps10,eq_opE e1 a1 e a]
def tx1 : ByteArray:=(⟨#[102,110,32,102,40,97,58,32,105,110,116,41,32,45,62,32,105,110,116,32,123,32,97,32,43,32,40,49,41,32,125]⟩ : ByteArray)
def tx2 : ByteArray:=(⟨#[102,110,32,102,40,41,32,45,62,32,105,110,116,32,123,32,48,59,32,125]⟩ : ByteArray)
def tx3 : ByteArray:=(⟨#[102,110,32,102,40,41,32,45,62,32,105,110,116,32,123,32]⟩ : ByteArray)
def tx4 : ByteArray:=(⟨#[102,110,32,102,40,41,32,45,62,32,105,110,116,32,123,32,97,32,60,32,98,32,60,32,99,32,125]⟩ : ByteArray)
def tx5 : ByteArray:=(⟨#[102,110,32,102,40,41,32,45,62,32,105,110,116,32,123,32,99,104,97,110,60,105,110,116,62,40,57,41,32,97,115,32,115,44,32,114,59,32,48,32,125]⟩ : ByteArray)
def tx6 : ByteArray:=(⟨#[36]⟩ : ByteArray)
def px1 : List It:=[⟨3,(⟨#[102]⟩ : ByteArray),[⟨(⟨#[97]⟩ : ByteArray),.mk 1 emS []⟩],.mk 1 emS [],[],.mk 9 0 emS emS ⟨emS,[]⟩ [.mk 4 0 emS emS ⟨(⟨#[97]⟩ : ByteArray),[]⟩ [] 22,.mk 1 1 emS emS ⟨emS,[]⟩ [] 27] 24,0⟩]
theorem tx1_ok : parseQ 300 tx1 = some px1:=by kernel_rfl
theorem px1_ok : great px1 = false ∧ itsDeep px1 ≤ 40:=⟨by kernel_rfl,of_decide_eq_true (by kernel_rfl)⟩
theorem tx2_ok : refuN 300 tx2 = some (51,19):=by kernel_rfl
theorem tx3_ok : refuN 300 tx3 = some (51,16):=by kernel_rfl
theorem tx4_ok : refuN 300 tx4 = some (51,22):=by kernel_rfl
theorem tx5_ok : refuN 300 tx5 = some (4,0):=by kernel_rfl
theorem tx6_ok : betwF 300 tx6.data.toList = some 0 ∧ lexE 300 0 (tx6.data.toList.drop 0) = some 0:=⟨by kernel_rfl,by kernel_rfl⟩
theorem awake05C (S : ASt) : ADet Tryd.prog 4 [] S (B true) S:=by
 have c1 : ∀ S,ADet Tryd.prog 5 [Sg tx1] S (.tup [.agg [.p (.sl 16 [[pU 3,pS (⟨#[102]⟩ : ByteArray),.sl 4 [[pS (⟨#[97]⟩ : ByteArray),pU 1,pS emS,.sl 3 []]],pU 1,pS emS,.sl 3 [],.sl 15 [],pU 9,pI 0,pS emS,pS emS,pS emS,.sl 1 [],.sl 8 [[pU 4,pI 0,pS emS,pS emS,pS (⟨#[97]⟩ : ByteArray),.sl 1 [],.sl 8 [],pI 22],[pU 1,pI 1,pS emS,pS emS,pS emS,.sl 1 [],.sl 8 [],pI 27]],pI 24,pI 0]])],.p (.sl 2 [])]) S:=fun S=>(programQC 300 (by decide) tx1 px1 tx1_ok (pr_sm px1_ok.1) px1_ok.2 S).lessT (.cons (.refl _) (.cons (.p (.nil 2)) (.refl _)))
 have c2:=fun S=>programNC 300 (by decide) tx2 51 19 tx2_ok S
 have c3:=fun S=>programNC 300 (by decide) tx3 51 16 tx3_ok S
 have c4:=fun S=>programNC 300 (by decide) tx4 51 22 tx4_ok S
 have c5:=fun S=>programNC 300 (by decide) tx5 4 0 tx5_ok S
 have c6:=fun S=>programLexC tx6 (by decide) 300 300 0 0 tx6_ok.1 tx6_ok.2 S
 have f2:=fun S=>faultC 51 19 51 19 S
 have f3:=fun S=>faultC 51 16 51 16 S
 have f4:=fun S=>faultC 51 22 51 22 S
 have f5:=fun S=>faultC 4 0 4 0 S
 have f6:=fun S=>faultC 20 0 20 0 S
 simp only [tx1,tx2,tx3,tx4,tx5,tx6,noneP,oneP] at c1 c2 c3 c4 c5 c6 f2 f3 f4 f5 f6
 refine ADet.introS Tryd.call4 Tryd.func4 rfl ?_
 refine SWP.seq (SWP.of_awp mixed ?_)
 simp [Tryd.ntmps4,seqS_normal]
 refine SWP.seq (SWP.of_awp mixed ?_)
 simp
 refine ⟨_,_,c1 _,?_⟩
 simp [seqS_normal]
 refine SWP.seq (SWP.of_awp mixed ?_)
 simp
 refine ⟨_,_,c2 _,?_⟩
 simp [seqS_normal]
 refine SWP.seq (SWP.of_awp mixed ?_)
 simp
 refine ⟨_,_,c3 _,?_⟩
 simp [seqS_normal]
 refine SWP.seq (SWP.of_awp mixed ?_)
 simp
 refine ⟨_,_,c4 _,?_⟩
 simp [seqS_normal]
 refine SWP.seq (SWP.of_awp mixed ?_)
 simp
 refine ⟨_,_,c5 _,?_⟩
 simp [seqS_normal]
 refine SWP.seq (SWP.of_awp mixed ?_)
 simp
 refine ⟨_,_,c6 _,?_⟩
 simp [seqS_normal]
 refine SWP.seq (SWP.of_awp mixed ?_)
 simp [seqS_normal]
 refine SWP.seq (SWP.of_awp mixed ?_)
 simp [seqS_normal]
 refine SWP.of_awp mixed ?_
 simp
 refine ⟨_,_,f2 _,?_⟩
 simp
 refine ⟨_,_,f3 _,?_⟩
 simp
 refine ⟨_,_,f4 _,?_⟩
 simp
 refine ⟨_,_,f5 _,?_⟩
 simp
 refine ⟨_,_,f6 _,?_⟩
 simp
end Go.Proofs.YtfiohepfohhibaaDoor
