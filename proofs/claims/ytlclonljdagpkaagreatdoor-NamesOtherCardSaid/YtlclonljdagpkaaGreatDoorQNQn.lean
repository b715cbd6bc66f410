/- A part of the proof. The statement is proved in the claim's last text. -/
import Derived.Test.YtlclonljdagpkaaGreatDoorQMNo
import Derived.Test.YtlclonljdagpkaaGreatDoorQMLt
import Derived.Test.YtlclonljdagpkaaGreatDoorQMLe
import Derived.Test.YtlclonljdagpkaaGreatDoorQMRoom
set_option linter.unusedVariables false
set_option linter.unusedSimpArgs false
set_option maxRecDepth 100000
set_option maxHeartbeats 32000000
namespace Go.Proofs.YtlclonljdagpkaaGreatDoor
open Go.RowKit
attribute [local simp] List.replicate List.range List.range.loop resA zR retA AV.cuts AV.cut AObj.cut trim wkR wkT wkL wkN wkNR wkNL wkM wkMR wkML zAi zAZ zY zAj zAb zQ rowA zf zT List.forall_mem_cons List.contains_cons List.contains_nil List.find? ze zd zS LCp LCl refL
theorem zn {P : Program} {α β : Type} (s : Sem α) (f : α -> Sem β) (a : α) (h : zl P s = some a) : zl P (s >>= f) = zl P (f a):=by
 induction s with
 | pure b=>simp [zl] at h; subst h; rfl
 | program k ih=>exact ih P (by simpa [zl] using h)
 | mark m k ih=>exact ih (by simpa [zl] using h)
 | _=>simp [zl] at h
theorem zKT {P : Program} {α : Type} (a : α) : zl P (Pure.pure a : Sem α) = some a:=rfl
theorem zCM {P : Program} {t : TypeId} {d : TypeDesc} (h : P.underlying t = some d) : zl P (underlying t) = some d:=by
 unfold underlying;rw [zn _ _ P rfl,h];rfl
theorem zKU {P : Program} {t : TypeId} {k : IntKind} (h : P.underlying t = some (.int k)) {cs : Array Value} {off : Nat} {v : Value} (hx : cs[off]? = some v) : zl P (part t cs off) = some v:=by
 unfold part
 have h1 : zl P (isAgg t) = some false:=by
  unfold isAgg;rw [zn _ _ _ (zCM h)];rfl
 rw [zn _ _ _ h1];simp [hx];rfl
theorem zMr {P : Program} {t : TypeId} {k kk : IntKind} (h : P.underlying t = some (.int k)) (n : Nat) (a b : Int) : zl P (Op.equalIn (n + 1) t (.int kk a) (.int kk b)) = some (a == b):=by
 rw [Op.equalIn,zn _ _ _ (zCM h)];simp [zKT]
theorem zLg {P : Program} {t : TypeId} {f0 f1 : Field} {k0 k1 k2 k3 : IntKind} (hu : P.underlying t = some (.struct #[f0,f1])) (h0 : P.underlying f0.type = some (.int k0)) (h1 : P.underlying f1.type = some (.int k1)) (n0 : f0.name ≠ "_") (n1 : f1.name ≠ "_") (o0 : f0.offset = 0) (o1 : f1.offset = 1) (hs : P.stoodInHeld t = false) (a b c d : Int) :
  zl P (Op.equal t (.agg #[.int k2 a,.int k3 b]) (.agg #[.int k2 c,.int k3 d])) = some (a == c && b == d):=by
 unfold Op.equal;rw [show Op.maxDepth = 9998 + 1 + 1 from rfl,Op.equalIn,zn _ _ _ (zCM hu)]
 have p0:=fun (x y : Value)=>zKU h0 (cs:=#[x,y]) (off:=0) (v:=x) rfl
 have p1:=fun (x y : Value)=>zKU h1 (cs:=#[x,y]) (off:=1) (v:=y) rfl
 have c0:=zMr h0 (kk:=k2) 9998 a c
 have c1:=zMr h1 (kk:=k3) 9998 b d
 simp only;rw [zn _ _ P rfl,hs];simp [n0,n1,o0,o1]
 generalize (a == c) = x at *
 generalize (b == d) = y at *
 rw [zn _ _ _ (p0 _ _),zn _ _ _ (p0 _ _),zn _ _ _ c0];cases x
 .rfl
 .simp only [Bool.true_eq_false,if_false,pure_bind,bind_assoc,Bool.true_and]
  rw [zn _ _ _ (p1 _ _),zn _ _ _ (p1 _ _),zn _ _ _ c1];cases y <;> rfl
theorem zKV (a b c d : Int) : zl Tryz.prog (Op.equal 48 (.agg #[.int .i64 a,.int .i64 b]) (.agg #[.int .i64 c,.int .i64 d])) = some (a == c && b == d):=by
 obtain ⟨f0,f1,hu,h0,h1,n0,n1,o0,o1,hs⟩:=zEr (by kernel_rfl : keyS Tryz.prog 48 = some (.int .i64,.int .i64))
 exact zLg hu h0 h1 n0 n1 o0 o1 hs a b c d
theorem zWi (x y : Operand) (a b c d : Int) : zl Tryz.prog (do eqGuard .neq 48 x y (.agg #[.int .i64 a,.int .i64 b]) (.agg #[.int .i64 c,.int .i64 d]); binOp .neq 48 (.agg #[.int .i64 a,.int .i64 b]) (.agg #[.int .i64 c,.int .i64 d]) : Sem Value) = some (.bool (!(a == c && b == d))):=by
 have h1 : zl Tryz.prog (eqGuard .neq 48 x y (.agg #[.int .i64 a,.int .i64 b]) (.agg #[.int .i64 c,.int .i64 d])) = some ():=by kernel_rfl
 rw [zn _ _ _ h1]
 show zl Tryz.prog (Op.equal 48 (.agg #[.int .i64 a,.int .i64 b]) (.agg #[.int .i64 c,.int .i64 d]) >>= fun r=>pure (Value.bool (!r))) = _
 rw [zn _ _ _ (zKV a b c d)];rfl
theorem zYs (a b c d : Int) (dst : Option Tmp) (x y : Operand) (k ty : TypeId) (pos : String) (after : Array Edge) (guard : Option (Nat × Bool)) (fr : List AV) (hx : evA fr x = .agg [I a,I b]) (hy : evA fr y = .agg [I c,I d]) : genP Tryz.prog ⟨dst,.binOp .neq 48 x y k,ty,pos,after,guard⟩ fr = some (B (!(a == c && b == d))):=by
 have at2 : ∀ a b : Int,zEY [I a,I b] = some [.int .i64 a,.int .i64 b]:=fun _ _=>rfl
 have v1 : zBw (evA fr x) = some (.agg #[.int .i64 a,.int .i64 b]):=by rw [hx]; simp [zBw,at2]
 have v2 : zBw (evA fr y) = some (.agg #[.int .i64 c,.int .i64 d]):=by rw [hy]; simp [zBw,at2]
 have h1 : (zKn (.binOp .neq 48 x y k) && zt fr (Op.operands (.binOp .neq 48 x y k)).toList) = true:=by
  show (true && zt fr [x,y]) = true
  rw [Bool.true_and,zt,zt,zt,v1,v2];rfl
 have h2 : zl Tryz.prog (execOp (fun z=>(zBw (evA fr z)).getD undef) ⟨dst,.binOp .neq 48 x y k,ty,pos,after,guard⟩) = some (.value (.bool (!(a == c && b == d)))):=by
  have e1 : (zBw (evA fr x)).getD undef = .agg #[.int .i64 a,.int .i64 b]:=by rw [v1]; rfl
  have e2 : (zBw (evA fr y)).getD undef = .agg #[.int .i64 c,.int .i64 d]:=by rw [v2]; rfl
  unfold execOp;simp only [e1,e2];exact zC6 _ _ _ (zWi x y a b c d)
 unfold genP;simp only;rw [if_pos h1,h2];rfl
theorem zHK (l : List Flt) (hl : l.length <= 4294967296) (S : ASt) : ADet Tryz.prog 11 [.p (.sl 2 (l.map fltE)),.p (.sl 2 (l.map fltE))] S (B true) S:=by
 have hlen : l.length <= maxLen:=by unfold maxLen; omega
 refine ADet.intro mixed Tryz.call11 Tryz.func11 rfl ?_;simp [Tryz.ntmps11];refine zE (fun q : Nat=>q <= l.length) (fun q=>([.p (.sl 2 (l.map fltE)),.p (.sl 2 (l.map fltE)),.any,.any,B false,I q] ++ List.replicate 20 .any)) (fun _=>[] :: S) (fun q=>l.length - q) 0 (Nat.zero_le _) ?_ ?_ ?_
 .simp
 .simp
 intro q hq
 by_cases hlt : q < l.length
 .have hlt' : (q : Int) < (l.length : Int):=by omega
  have hw2:=zD hlt hlen
  have hmu : l.length - (q + 1) < l.length - q:=by omega
  generalize hf : l[q] = f at *
  have hne:=zYs f.1 f.2 f.1 f.2
  simp only [beq_self_eq_true,Bool.and_self,Bool.not_true] at hne;simp [hlt,hlt'];refine zA [] (by kernel_rfl) (by kernel_rfl) ?_
  simp [hlt,hlt',hf,fltE,hne];exact ⟨q + 1,hlt,hmu,hw2⟩
 .have hlt' : ¬ (q : Int) < (l.length : Int):=by omega
  simp [hlt,hlt']
theorem zGH {S : ASt} {o : Nat} {fl : List Flt} (h : get2 S 0 o = some (rwO fl)) : Lent S (.rsl 0 o fl.length 2) (.sl 2 (fl.map fltE)):=by
 refine Lent.row (css:=fl.map fun f=>(fltE f).map AV.p) h (by simp) (by simp) fun r cs row h1 h2=>?_
 rw [List.getElem?_map] at h1 h2
 obtain ⟨f,hf,rfl⟩:=Option.map_eq_some_iff.1 h1
 rw [hf] at h2
 obtain rfl : fltE f = row:=by simpa using h2
 refine ⟨rfl,rfl,fun j c q a b=>?_⟩
 rw [List.getElem?_map,b] at a
 obtain rfl : AV.p q = c:=by simpa using a
 exact .p q
def zZ7 (l : List Flt) (i : Nat) : List Flt:=(l.take i).map (fun f=>(f.1,-1)) ++ l.drop i
theorem zYt (l : List Flt) : (rowC fltE l).length = l.length * 2:=by
 induction l with
 | nil=>rfl
 | cons e l ih =>
  have e2 : ∀ (x : Flt) (m : List Flt),rowC fltE (x :: m) = I x.1 :: I x.2 :: rowC fltE m:=fun _ _=>rfl
  rw [e2,List.length_cons,List.length_cons,ih,List.length_cons];omega
end Go.Proofs.YtlclonljdagpkaaGreatDoor
namespace Go.Proofs.YtlclonljdagpkaaGreatDoor
open Go.RowKit
theorem zWj (n : Nat) (fl : List Flt) : AObj.cut n (rwO fl) = rwO fl:=by
 unfold rwO
 show AObj.row _ _ _ (AV.cuts n _) = _
 rw [zD6]
end Go.Proofs.YtlclonljdagpkaaGreatDoor
