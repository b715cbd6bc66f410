/- A part of the proof. The statement is proved in the claim's last text. -/
import Derived.Test.YtlclonljdagpkaaGreatDoorQNQj
import Derived.Test.YtlclonljdagpkaaGreatDoorQNPg
import Derived.Test.YtlclonljdagpkaaGreatDoorQNQn
set_option linter.unusedVariables false
set_option linter.unusedSimpArgs false
set_option maxRecDepth 100000
set_option maxHeartbeats 32000000
namespace Go.Proofs.YtlclonljdagpkaaGreatDoor
open Go.RowKit
attribute [local simp] List.replicate List.range List.range.loop resA zR retA
theorem zHL (a b c d : Int) (dst : Option Tmp) (x y : Operand) (k ty : TypeId) (pos : String) (after : Array Edge) (guard : Option (Nat × Bool)) (fr : List AV) (hx : evA fr x = .agg [I a,I b]) (hy : evA fr y = .agg [I c,I d]) : genP Tryz.prog ⟨dst,.binOp .eql 48 x y k,ty,pos,after,guard⟩ fr = some (B (a == c && b == d)):=by
 have at2 : ∀ a b : Int,zEY [I a,I b] = some [.int .i64 a,.int .i64 b]:=fun _ _=>rfl
 have v1 : zBw (evA fr x) = some (.agg #[.int .i64 a,.int .i64 b]):=by rw [hx]; simp [zBw,at2]
 have v2 : zBw (evA fr y) = some (.agg #[.int .i64 c,.int .i64 d]):=by rw [hy]; simp [zBw,at2]
 have hrun : zl Tryz.prog (do eqGuard .eql 48 x y (.agg #[.int .i64 a,.int .i64 b]) (.agg #[.int .i64 c,.int .i64 d]); binOp .eql 48 (.agg #[.int .i64 a,.int .i64 b]) (.agg #[.int .i64 c,.int .i64 d]) : Sem Value) = some (.bool (a == c && b == d)):=by
  have h1 : zl Tryz.prog (eqGuard .eql 48 x y (.agg #[.int .i64 a,.int .i64 b]) (.agg #[.int .i64 c,.int .i64 d])) = some ():=by kernel_rfl
  rw [zn _ _ _ h1]
  show zl Tryz.prog (Op.equal 48 (.agg #[.int .i64 a,.int .i64 b]) (.agg #[.int .i64 c,.int .i64 d]) >>= fun r=>pure (Value.bool r)) = _
  rw [zn _ _ _ (zKV a b c d)];rfl
 have h1 : (zKn (.binOp .eql 48 x y k) && zt fr (Op.operands (.binOp .eql 48 x y k)).toList) = true:=by
  show (true && zt fr [x,y]) = true
  rw [Bool.true_and,zt,zt,zt,v1,v2];rfl
 have h2 : zl Tryz.prog (execOp (fun z=>(zBw (evA fr z)).getD undef) ⟨dst,.binOp .eql 48 x y k,ty,pos,after,guard⟩) = some (.value (.bool (a == c && b == d))):=by
  have e1 : (zBw (evA fr x)).getD undef = .agg #[.int .i64 a,.int .i64 b]:=by rw [v1]; rfl
  have e2 : (zBw (evA fr y)).getD undef = .agg #[.int .i64 c,.int .i64 d]:=by rw [v2]; rfl
  unfold execOp;simp only [e1,e2];exact zC6 _ _ _ hrun
 unfold genP;simp only;rw [if_pos h1,h2];rfl
theorem zWk (n : Nat) (hn : n <= 100000) (s : ByteArray) (p : List It) (h : zCZ n s = some p) (hg : great p = false) (hd : zBp p <= 40) (hw : z6 p = true) (fl : List Flt) (hfl : z7 p = fl) (L : List AObj) (hLL : wkL L L) (R : ASt) : ADet Tryz.prog 55 [Sg s] (L :: R) (.rsl 0 (L.length + 5) fl.length 2) ((L ++ [.dead,.dead,.dead,.dead,.dead,rwO fl]) :: R):=by
 subst hfl
 have pC:=fun S=>ADet.lessTq (l':=[.agg [.p (prog p)],.p (.sl 2 [])]) (.cons (.refl _) (.cons (.p (.nil 2)) (.refl _))) (zQt n hn s p h (zNR hg) hd S)
 have cC:=fun R=>zYA p hg hw [.cells [.p (prog p)] 24] ⟨⟨rfl,zL _⟩,trivial⟩ R
 refine ADet.after (S':=(L ++ [.cells [.p (prog p)] 24,.dead,.dead,.dead,.dead,rwO (z7 p)].map (AObj.mrg L.length)) :: R) ⟨zAy hLL ?_,rfl⟩ ?_
 .show wkL [AObj.mrg L.length (rwO (z7 p))] [rwO (z7 p)]
  rw [zUH];exact ⟨⟨⟨rfl,rfl,rfl⟩,zL _⟩,trivial⟩
 refine ADet.merge mixed Tryz.call55 Tryz.func55 rfl ?_;simp [Tryz.ntmps55];refine ⟨_,_,pC _,?_⟩;simp;refine ⟨_,_,cC _,?_⟩;simp;simp [AV.mrg,Nat.add_comm]
def tA : ByteArray:=(⟨#[102,110,32,109,97,105,110,40,41,32,45,62,32,105,110,116,32,123,32,48,32,125]⟩ : ByteArray)
def tB : ByteArray:=(⟨#[102,110,32,109,97,105,110,40,41,32,45,62,32,105,110,116,32,123,32,108,101,116,32,97,32,61,32,98,59,32,108,101,116,32,97,32,61,32,49,59,32,97,32,125]⟩ : ByteArray)
def tC : ByteArray:=(⟨#[102,110,32,109,97,105,110,40,41,32,45,62,32,105,110,116,32,123,32,123,32,108,101,116,32,97,32,61,32,49,59,32,125,32,97,32,125]⟩ : ByteArray)
def tD : ByteArray:=(⟨#[102,110,32,109,97,105,110,40,41,32,45,62,32,105,110,116,32,123,32,115,99,111,112,101,32,123,32,115,112,97,119,110,32,40,97,32,61,32,49,41,32,123,32,115,112,97,119,110,32,40,41,32,123,32,125,32,125,32,125,32,48,32,125]⟩ : ByteArray)
def tE : ByteArray:=(⟨#[102,110,32,102,40,97,58,32,83,41,32,45,62,32,105,110,116,32,123,32,102,40,41,32,125,32,102,110,32,109,97,105,110,40,41,32,45,62,32,105,110,116,32,123,32,48,32,125]⟩ : ByteArray)
def tF : ByteArray:=⟨#[]⟩
def prQ (s : ByteArray) : List It:=(zCZ 60 s).getD []
theorem zTe {s : ByteArray} (h : (zCZ 60 s).isSome = true) : zCZ 60 s = some (prQ s):=by
 unfold prQ
 cases hq : zCZ 60 s with
 | none=>rw [hq] at h; cases h
 | some p=>rfl
theorem pA : (zCZ 60 tA).isSome = true:=by kernel_rfl
theorem pB : (zCZ 60 tB).isSome = true:=by kernel_rfl
theorem pC : (zCZ 60 tC).isSome = true:=by kernel_rfl
theorem pD : (zCZ 60 tD).isSome = true:=by kernel_rfl
theorem pE : (zCZ 60 tE).isSome = true:=by kernel_rfl
theorem pF : (zCZ 60 tF).isSome = true:=by kernel_rfl
theorem fA : z7 (prQ tA) = []:=by kernel_rfl
theorem fB : z7 (prQ tB) = [(60,27),(60,30)]:=by kernel_rfl
theorem fC : z7 (prQ tC) = [(60,34)]:=by kernel_rfl
theorem fD : z7 (prQ tD) = [(61,43)]:=by kernel_rfl
theorem fE : z7 (prQ tE) = [(60,0),(60,20)]:=by kernel_rfl
theorem fF : z7 (prQ tF) = [(62,0)]:=by kernel_rfl
theorem okA : (great (prQ tA) || !z6 (prQ tA) || decide (40 < zBp (prQ tA))) = false:=by kernel_rfl
theorem okB : (great (prQ tB) || !z6 (prQ tB) || decide (40 < zBp (prQ tB))) = false:=by kernel_rfl
theorem okC : (great (prQ tC) || !z6 (prQ tC) || decide (40 < zBp (prQ tC))) = false:=by kernel_rfl
theorem okD : (great (prQ tD) || !z6 (prQ tD) || decide (40 < zBp (prQ tD))) = false:=by kernel_rfl
theorem okE : (great (prQ tE) || !z6 (prQ tE) || decide (40 < zBp (prQ tE))) = false:=by kernel_rfl
theorem okF : (great (prQ tF) || !z6 (prQ tF) || decide (40 < zBp (prQ tF))) = false:=by kernel_rfl
theorem zOU {s : ByteArray} {fl : List Flt} (h : (zCZ 60 s).isSome = true) (hok : (great (prQ s) || !z6 (prQ s) || decide (40 < zBp (prQ s))) = false) (hf : z7 (prQ s) = fl) (L : List AObj) (hLL : wkL L L) (R : ASt) : ADet Tryz.prog 55 [Sg s] (L :: R) (.rsl 0 (L.length + 5) fl.length 2) ((L ++ [.dead,.dead,.dead,.dead,.dead,rwO fl]) :: R):=by
 simp only [Bool.or_eq_false_iff,Bool.not_eq_false',decide_eq_false_iff_not] at hok;exact zWk 60 (by omega) s _ (zTe h) hok.1.1 (by omega) hok.1.2 fl hf L hLL R
theorem wkd (fl : List Flt) {A B : List AObj} (h : wkL A B) : wkL (.dead :: .dead :: .dead :: .dead :: .dead :: rwO fl :: A) (.dead :: .dead :: .dead :: .dead :: .dead :: rwO fl :: B):=⟨⟨⟨rfl,rfl,rfl⟩,zL _⟩,h⟩
theorem wkE : wkL ([] : List AObj) []:=trivial
theorem zBU (S : ASt) : ADet Tryz.prog 18 [] S (B true) S:=by
 have cA:=fun L h R=>zOU pA okA fA L h R
 have cB:=fun L h R=>zOU pB okB fB L h R
 have cC:=fun L h R=>zOU pC okC fC L h R
 have cD:=fun L h R=>zOU pD okD fD L h R
 have cE:=fun L h R=>zOU pE okE fE L h R
 have cF:=fun L h R=>zOU pF okF fF L h R
 unfold tA at cA;unfold tB at cB;unfold tC at cC;unfold tD at cD;unfold tE at cE;unfold tF at cF
 have e1:=zHL 60 27 60 27
 have e2:=zHL 60 30 60 30
 have e3:=zHL 60 34 60 34
 have e4:=zHL 61 43 61 43
 have e5:=zHL 60 0 60 0
 have e6:=zHL 60 20 60 20
 refine ADet.intro mixed Tryz.call18 Tryz.func18 rfl ?_;simp [Tryz.ntmps18];refine ⟨_,_,cA [] trivial _,?_⟩;simp;refine ⟨_,_,cB _ (wkd _ wkE) _,?_⟩;simp;refine ⟨_,_,cC _ (wkd _ (wkd _ wkE)) _,?_⟩;simp;refine ⟨_,_,cD _ (wkd _ (wkd _ (wkd _ wkE))) _,?_⟩;simp;refine ⟨_,_,cE _ (wkd _ (wkd _ (wkd _ (wkd _ wkE)))) _,?_⟩;simp;refine ⟨_,_,cF _ (wkd _ (wkd _ (wkd _ (wkd _ (wkd _ wkE))))) _,?_⟩;simp [rwO,rowC,fltE,e1,e2,e3,e4,e5,e6]
end Go.Proofs.YtlclonljdagpkaaGreatDoor
