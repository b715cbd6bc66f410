/- A part of the proof. The statement is proved in the claim's last text. -/
import Derived.Test.YtlclonljdagpkaaGreatDoorYNQj
import Derived.Test.YtlclonljdagpkaaGreatDoorYNPg
import Derived.Test.YtlclonljdagpkaaGreatDoorYNQn
set_option linter.unusedVariables false
set_option linter.unusedSimpArgs false
set_option maxRecDepth 100000
set_option maxHeartbeats 32000000
namespace Go.Proofs.YtlclonljdagpkaaGreatDoor
open Go.RowKit
attribute [local simp] List.replicate List.range List.range.loop resA resOne retA
theorem eql_op (a b c d : Int) (dst : Option Tmp) (x y : Operand) (k ty : TypeId) (pos : String) (after : Array Edge) (guard : Option (Nat × Bool)) (fr : List AV) (hx : evA fr x = .agg [I a,I b]) (hy : evA fr y = .agg [I c,I d]) : genP Tryz.prog ⟨dst,.binOp .eql 48 x y k,ty,pos,after,guard⟩ fr = some (B (a == c && b == d)):=by
 have at2 : ∀ a b : Int,atomsAV [I a,I b] = some [.int .i64 a,.int .i64 b]:=fun _ _=>rfl
 have v1 : atomV (evA fr x) = some (.agg #[.int .i64 a,.int .i64 b]):=by rw [hx]; simp [atomV,at2]
 have v2 : atomV (evA fr y) = some (.agg #[.int .i64 c,.int .i64 d]):=by rw [hy]; simp [atomV,at2]
 have hrun : pureRun Tryz.prog (do eqGuard .eql 48 x y (.agg #[.int .i64 a,.int .i64 b]) (.agg #[.int .i64 c,.int .i64 d]); binOp .eql 48 (.agg #[.int .i64 a,.int .i64 b]) (.agg #[.int .i64 c,.int .i64 d]) : Sem Value) = some (.bool (a == c && b == d)):=by
  have h1 : pureRun Tryz.prog (eqGuard .eql 48 x y (.agg #[.int .i64 a,.int .i64 b]) (.agg #[.int .i64 c,.int .i64 d])) = some ():=by kernel_rfl
  rw [pureRun_bind _ _ _ h1]
  show pureRun Tryz.prog (Op.equal 48 (.agg #[.int .i64 a,.int .i64 b]) (.agg #[.int .i64 c,.int .i64 d]) >>= fun r=>pure (Value.bool r)) = _
  rw [pureRun_bind _ _ _ (equal_flt a b c d)]
  rfl
 have h1 : (noSel (.binOp .eql 48 x y k) && allAtoms fr (Op.operands (.binOp .eql 48 x y k)).toList) = true:=by
  show (true && allAtoms fr [x,y]) = true
  rw [Bool.true_and,allAtoms,allAtoms,allAtoms,v1,v2]
  rfl
 have h2 : pureRun Tryz.prog (execOp (fun z=>(atomV (evA fr z)).getD undef) ⟨dst,.binOp .eql 48 x y k,ty,pos,after,guard⟩) = some (.value (.bool (a == c && b == d))):=by
  have e1 : (atomV (evA fr x)).getD undef = .agg #[.int .i64 a,.int .i64 b]:=by rw [v1]; rfl
  have e2 : (atomV (evA fr y)).getD undef = .agg #[.int .i64 c,.int .i64 d]:=by rw [v2]; rfl
  unfold execOp
  simp only [e1,e2]
  exact pureRun_map _ _ _ hrun
 unfold genP
 simp only
 rw [if_pos h1,h2]
 rfl
theorem faultsC (n : Nat) (hn : n ≤ 100000) (s : ByteArray) (p : List It) (h : parseQ n s = some p) (hg : great p = false) (hd : itsDeep p ≤ 40) (hw : prWhole p = true) (fl : List Flt) (hfl : checkN p = fl) (L : List AObj) (hLL : wkL L L) (R : ASt) : ADet Tryz.prog 55 [Sg s] (L :: R) (.rsl 0 (L.length + 5) fl.length 2) ((L ++ [.dead,.dead,.dead,.dead,.dead,rwO fl]) :: R):=by
 subst hfl
 have pC:=fun S=>ADet.lessTq (l':=[.agg [.p (prog p)],.p (.sl 2 [])]) (.cons (.refl _) (.cons (.p (.nil 2)) (.refl _))) (programQC n hn s p h (pr_sm hg) hd S)
 have cC:=fun R=>checkW p hg hw [.cells [.p (prog p)] 24] ⟨⟨rfl,wkR_refl _⟩,trivial⟩ R
 refine ADet.after (S':=(L ++ [.cells [.p (prog p)] 24,.dead,.dead,.dead,.dead,rwO (checkN p)].map (AObj.mrg L.length)) :: R) ⟨wkL_right hLL ?_,rfl⟩ ?_
 ·show wkL [AObj.mrg L.length (rwO (checkN p))] [rwO (checkN p)]
  rw [rw_mrg]
  exact ⟨⟨⟨rfl,rfl,rfl⟩,wkR_refl _⟩,trivial⟩
 refine ADet.merge mixed Tryz.call55 Tryz.func55 rfl ?_
 simp [Tryz.ntmps55]
 refine ⟨_,_,pC _,?_⟩
 simp
 refine ⟨_,_,cC _,?_⟩
 simp
 simp [AV.mrg,Nat.add_comm]
def tA : ByteArray:=(⟨#[102,110,32,109,97,105,110,40,41,32,45,62,32,105,110,116,32,123,32,48,32,125]⟩ : ByteArray)
def tB : ByteArray:=(⟨#[102,110,32,109,97,105,110,40,41,32,45,62,32,105,110,116,32,123,32,108,101,116,32,97,32,61,32,98,59,32,108,101,116,32,97,32,61,32,49,59,32,97,32,125]⟩ : ByteArray)
def tC : ByteArray:=(⟨#[102,110,32,109,97,105,110,40,41,32,45,62,32,105,110,116,32,123,32,123,32,108,101,116,32,97,32,61,32,49,59,32,125,32,97,32,125]⟩ : ByteArray)
def tD : ByteArray:=(⟨#[102,110,32,109,97,105,110,40,41,32,45,62,32,105,110,116,32,123,32,115,99,111,112,101,32,123,32,115,112,97,119,110,32,40,97,32,61,32,49,41,32,123,32,115,112,97,119,110,32,40,41,32,123,32,125,32,125,32,125,32,48,32,125]⟩ : ByteArray)
def tE : ByteArray:=(⟨#[102,110,32,102,40,97,58,32,83,41,32,45,62,32,105,110,116,32,123,32,102,40,41,32,125,32,102,110,32,109,97,105,110,40,41,32,45,62,32,105,110,116,32,123,32,48,32,125]⟩ : ByteArray)
def tF : ByteArray:=⟨#[]⟩
def prQ (s : ByteArray) : List It:=(parseQ 60 s).getD []
theorem prQ_some {s : ByteArray} (h : (parseQ 60 s).isSome = true) : parseQ 60 s = some (prQ s):=by
 unfold prQ
 cases hq : parseQ 60 s with
 | none=>rw [hq] at h; cases h
 | some p=>rfl
theorem pA : (parseQ 60 tA).isSome = true:=by kernel_rfl
theorem pB : (parseQ 60 tB).isSome = true:=by kernel_rfl
theorem pC : (parseQ 60 tC).isSome = true:=by kernel_rfl
theorem pD : (parseQ 60 tD).isSome = true:=by kernel_rfl
theorem pE : (parseQ 60 tE).isSome = true:=by kernel_rfl
theorem pF : (parseQ 60 tF).isSome = true:=by kernel_rfl
theorem fA : checkN (prQ tA) = []:=by kernel_rfl
theorem fB : checkN (prQ tB) = [(60,27),(60,30)]:=by kernel_rfl
theorem fC : checkN (prQ tC) = [(60,34)]:=by kernel_rfl
theorem fD : checkN (prQ tD) = [(61,43)]:=by kernel_rfl
theorem fE : checkN (prQ tE) = [(60,0),(60,20)]:=by kernel_rfl
theorem fF : checkN (prQ tF) = [(62,0)]:=by kernel_rfl
theorem okA : (great (prQ tA) || !prWhole (prQ tA) || decide (40 < itsDeep (prQ tA))) = false:=by kernel_rfl
theorem okB : (great (prQ tB) || !prWhole (prQ tB) || decide (40 < itsDeep (prQ tB))) = false:=by kernel_rfl
theorem okC : (great (prQ tC) || !prWhole (prQ tC) || decide (40 < itsDeep (prQ tC))) = false:=by kernel_rfl
theorem okD : (great (prQ tD) || !prWhole (prQ tD) || decide (40 < itsDeep (prQ tD))) = false:=by kernel_rfl
theorem okE : (great (prQ tE) || !prWhole (prQ tE) || decide (40 < itsDeep (prQ tE))) = false:=by kernel_rfl
theorem okF : (great (prQ tF) || !prWhole (prQ tF) || decide (40 < itsDeep (prQ tF))) = false:=by kernel_rfl
theorem fltOf {s : ByteArray} {fl : List Flt} (h : (parseQ 60 s).isSome = true) (hok : (great (prQ s) || !prWhole (prQ s) || decide (40 < itsDeep (prQ s))) = false) (hf : checkN (prQ s) = fl) (L : List AObj) (hLL : wkL L L) (R : ASt) : ADet Tryz.prog 55 [Sg s] (L :: R) (.rsl 0 (L.length + 5) fl.length 2) ((L ++ [.dead,.dead,.dead,.dead,.dead,rwO fl]) :: R):=by
 simp only [Bool.or_eq_false_iff,Bool.not_eq_false',decide_eq_false_iff_not] at hok
 exact faultsC 60 (by omega) s _ (prQ_some h) hok.1.1 (by omega) hok.1.2 fl hf L hLL R
theorem wkd (fl : List Flt) {A B : List AObj} (h : wkL A B) : wkL (.dead :: .dead :: .dead :: .dead :: .dead :: rwO fl :: A) (.dead :: .dead :: .dead :: .dead :: .dead :: rwO fl :: B):=⟨⟨⟨rfl,rfl,rfl⟩,wkR_refl _⟩,h⟩
theorem wkE : wkL ([] : List AObj) []:=trivial
theorem awake06C (S : ASt) : ADet Tryz.prog 18 [] S (B true) S:=by
 have cA:=fun L h R=>fltOf pA okA fA L h R
 have cB:=fun L h R=>fltOf pB okB fB L h R
 have cC:=fun L h R=>fltOf pC okC fC L h R
 have cD:=fun L h R=>fltOf pD okD fD L h R
 have cE:=fun L h R=>fltOf pE okE fE L h R
 have cF:=fun L h R=>fltOf pF okF fF L h R
 unfold tA at cA
 unfold tB at cB
 unfold tC at cC
 unfold tD at cD
 unfold tE at cE
 unfold tF at cF
 have e1:=eql_op 60 27 60 27
 have e2:=eql_op 60 30 60 30
 have e3:=eql_op 60 34 60 34
 have e4:=eql_op 61 43 61 43
 have e5:=eql_op 60 0 60 0
 have e6:=eql_op 60 20 60 20
 refine ADet.intro mixed Tryz.call18 Tryz.func18 rfl ?_
 simp [Tryz.ntmps18]
 refine ⟨_,_,cA [] trivial _,?_⟩
 simp
 refine ⟨_,_,cB _ (wkd _ wkE) _,?_⟩
 simp
 refine ⟨_,_,cC _ (wkd _ (wkd _ wkE)) _,?_⟩
 simp
 refine ⟨_,_,cD _ (wkd _ (wkd _ (wkd _ wkE))) _,?_⟩
 simp
 refine ⟨_,_,cE _ (wkd _ (wkd _ (wkd _ (wkd _ wkE)))) _,?_⟩
 simp
 refine ⟨_,_,cF _ (wkd _ (wkd _ (wkd _ (wkd _ (wkd _ wkE))))) _,?_⟩
 simp [rwO,rowC,fltE,e1,e2,e3,e4,e5,e6]
end Go.Proofs.YtlclonljdagpkaaGreatDoor
