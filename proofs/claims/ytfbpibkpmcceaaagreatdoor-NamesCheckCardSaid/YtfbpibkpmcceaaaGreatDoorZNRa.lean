/- A part of the proof. The statement is proved in the claim's last text. -/
import Derived.Test.YtfbpibkpmcceaaaGreatDoorZMNo
import Derived.Test.YtfbpibkpmcceaaaGreatDoorZMLt
import Derived.Test.YtfbpibkpmcceaaaGreatDoorZMLe
import Derived.Test.YtfbpibkpmcceaaaGreatDoorZMCp
import Derived.Test.YtfbpibkpmcceaaaGreatDoorZMRoom
import Derived.Test.YtfbpibkpmcceaaaGreatDoorZNQg
import Derived.Test.YtfbpibkpmcceaaaGreatDoorZNPg
set_option linter.unusedVariables false
set_option linter.unusedSimpArgs false
set_option maxRecDepth 100000
set_option maxHeartbeats 32000000
namespace Go.Proofs.YtfbpibkpmcceaaaGreatDoor
open Go.RowKit
attribute [local simp] List.replicate List.range List.range.loop resA resOne retA AV.cuts AV.cut AObj.cut trim wkR wkT wkL wkN wkNR wkNL wkM wkMR wkML virtL virtO virt_get markL markO markR_get rowA awpI_nil awpI_cons List.forall_mem_cons List.contains_cons List.contains_nil List.find? nextD_eq awpD_nil awpD_cons LCp LCl refL
theorem pureRun_bind {P : Program} {α β : Type} (s : Sem α) (f : α → Sem β) (a : α) (h : pureRun P s = some a) : pureRun P (s >>= f) = pureRun P (f a):=by
 induction s with
 | pure b=>simp [pureRun] at h; subst h; rfl
 | program k ih=>exact ih P (by simpa [pureRun] using h)
 | mark m k ih=>exact ih (by simpa [pureRun] using h)
 | _=>simp [pureRun] at h
theorem pureRun_pure {P : Program} {α : Type} (a : α) : pureRun P (Pure.pure a : Sem α) = some a:=rfl
theorem prun_underlying {P : Program} {t : TypeId} {d : TypeDesc} (h : P.underlying t = some d) : pureRun P (underlying t) = some d:=by
 unfold underlying
 rw [pureRun_bind _ _ P rfl,h]
 rfl
theorem prun_part {P : Program} {t : TypeId} {k : IntKind} (h : P.underlying t = some (.int k)) {cs : Array Value} {off : Nat} {v : Value} (hx : cs[off]? = some v) : pureRun P (part t cs off) = some v:=by
 unfold part
 have h1 : pureRun P (isAgg t) = some false:=by
  unfold isAgg
  rw [pureRun_bind _ _ _ (prun_underlying h)]
  rfl
 rw [pureRun_bind _ _ _ h1]
 simp [hx]
 rfl
theorem prun_int {P : Program} {t : TypeId} {k kk : IntKind} (h : P.underlying t = some (.int k)) (n : Nat) (a b : Int) : pureRun P (Op.equalIn (n + 1) t (.int kk a) (.int kk b)) = some (a == b):=by
 rw [Op.equalIn,pureRun_bind _ _ _ (prun_underlying h)]
 simp [pureRun_pure]
theorem prun_equal2 {P : Program} {t : TypeId} {f0 f1 : Field} {k0 k1 k2 k3 : IntKind} (hu : P.underlying t = some (.struct #[f0,f1])) (h0 : P.underlying f0.type = some (.int k0)) (h1 : P.underlying f1.type = some (.int k1)) (n0 : f0.name ≠ "_") (n1 : f1.name ≠ "_") (o0 : f0.offset = 0) (o1 : f1.offset = 1) (hs : P.stoodInHeld t = false) (a b c d : Int) :
  pureRun P (Op.equal t (.agg #[.int k2 a,.int k3 b]) (.agg #[.int k2 c,.int k3 d])) = some (a == c && b == d):=by
 unfold Op.equal
 rw [show Op.maxDepth = 9998 + 1 + 1 from rfl,Op.equalIn,pureRun_bind _ _ _ (prun_underlying hu)]
 have p0:=fun (x y : Value)=>prun_part h0 (cs:=#[x,y]) (off:=0) (v:=x) rfl
 have p1:=fun (x y : Value)=>prun_part h1 (cs:=#[x,y]) (off:=1) (v:=y) rfl
 have c0:=prun_int h0 (kk:=k2) 9998 a c
 have c1:=prun_int h1 (kk:=k3) 9998 b d
 simp only
 rw [pureRun_bind _ _ P rfl,hs]
 simp [n0,n1,o0,o1]
 generalize (a == c) = x at *
 generalize (b == d) = y at *
 rw [pureRun_bind _ _ _ (p0 _ _),pureRun_bind _ _ _ (p0 _ _),pureRun_bind _ _ _ c0]
 cases x
 ·rfl
 ·simp only [Bool.true_eq_false,if_false,pure_bind,bind_assoc,Bool.true_and]
  rw [pureRun_bind _ _ _ (p1 _ _),pureRun_bind _ _ _ (p1 _ _),pureRun_bind _ _ _ c1]
  cases y <;> rfl
theorem equal_flt (a b c d : Int) : pureRun Tryz.prog (Op.equal 32 (.agg #[.int .i64 a,.int .i64 b]) (.agg #[.int .i64 c,.int .i64 d])) = some (a == c && b == d):=by
 obtain ⟨f0,f1,hu,h0,h1,n0,n1,o0,o1,hs⟩:=keyS_spec (by kernel_rfl : keyS Tryz.prog 32 = some (.int .i64,.int .i64))
 exact prun_equal2 hu h0 h1 n0 n1 o0 o1 hs a b c d
theorem neq_flt (x y : Operand) (a b c d : Int) : pureRun Tryz.prog (do eqGuard .neq 32 x y (.agg #[.int .i64 a,.int .i64 b]) (.agg #[.int .i64 c,.int .i64 d]); binOp .neq 32 (.agg #[.int .i64 a,.int .i64 b]) (.agg #[.int .i64 c,.int .i64 d]) : Sem Value) = some (.bool (!(a == c && b == d))):=by
 have h1 : pureRun Tryz.prog (eqGuard .neq 32 x y (.agg #[.int .i64 a,.int .i64 b]) (.agg #[.int .i64 c,.int .i64 d])) = some ():=by kernel_rfl
 rw [pureRun_bind _ _ _ h1]
 show pureRun Tryz.prog (Op.equal 32 (.agg #[.int .i64 a,.int .i64 b]) (.agg #[.int .i64 c,.int .i64 d]) >>= fun r=>pure (Value.bool (!r))) = _
 rw [pureRun_bind _ _ _ (equal_flt a b c d)]
 rfl
theorem neq_op (a b c d : Int) (dst : Option Tmp) (x y : Operand) (k ty : TypeId) (pos : String) (after : Array Edge) (guard : Option (Nat × Bool)) (fr : List AV) (hx : evA fr x = .agg [I a,I b]) (hy : evA fr y = .agg [I c,I d]) : genP Tryz.prog ⟨dst,.binOp .neq 32 x y k,ty,pos,after,guard⟩ fr = some (B (!(a == c && b == d))):=by
 have at2 : ∀ a b : Int,atomsAV [I a,I b] = some [.int .i64 a,.int .i64 b]:=fun _ _=>rfl
 have v1 : atomV (evA fr x) = some (.agg #[.int .i64 a,.int .i64 b]):=by rw [hx]; simp [atomV,at2]
 have v2 : atomV (evA fr y) = some (.agg #[.int .i64 c,.int .i64 d]):=by rw [hy]; simp [atomV,at2]
 have h1 : (noSel (.binOp .neq 32 x y k) && allAtoms fr (Op.operands (.binOp .neq 32 x y k)).toList) = true:=by
  show (true && allAtoms fr [x,y]) = true
  rw [Bool.true_and,allAtoms,allAtoms,allAtoms,v1,v2]
  rfl
 have h2 : pureRun Tryz.prog (execOp (fun z=>(atomV (evA fr z)).getD undef) ⟨dst,.binOp .neq 32 x y k,ty,pos,after,guard⟩) = some (.value (.bool (!(a == c && b == d)))):=by
  have e1 : (atomV (evA fr x)).getD undef = .agg #[.int .i64 a,.int .i64 b]:=by rw [v1]; rfl
  have e2 : (atomV (evA fr y)).getD undef = .agg #[.int .i64 c,.int .i64 d]:=by rw [v2]; rfl
  unfold execOp
  simp only [e1,e2]
  exact pureRun_map _ _ _ (neq_flt x y a b c d)
 unfold genP
 simp only
 rw [if_pos h1,h2]
 rfl
theorem sameFaultsC (l : List Flt) (hl : l.length ≤ 4294967296) (S : ASt) : ADet Tryz.prog 12 [.p (.sl 2 (l.map fltE)),.p (.sl 2 (l.map fltE))] S (B true) S:=by
 have hlen : l.length ≤ maxLen:=by unfold maxLen; omega
 refine ADet.intro mixed Tryz.call12 Tryz.func12 rfl ?_
 simp [Tryz.ntmps12]
 refine awp_loop (fun q : Nat=>q ≤ l.length) (fun q=>([.p (.sl 2 (l.map fltE)),.p (.sl 2 (l.map fltE)),.any,.any,B false,I q] ++ List.replicate 20 .any)) (fun _=>[] :: S) (fun q=>l.length - q) 0 (Nat.zero_le _) ?_ ?_ ?_
 ·simp
 ·simp
 intro q hq
 by_cases hlt : q < l.length
 ·have hlt' : (q : Int) < (l.length : Int):=by omega
  have hw2:=wrap_succ hlt hlen
  have hmu : l.length - (q + 1) < l.length - q:=by omega
  generalize hf : l[q] = f at *
  have hne:=neq_op f.1 f.2 f.1 f.2
  simp only [beq_self_eq_true,Bool.and_self,Bool.not_true] at hne
  simp [hlt,hlt']
  refine awp_draw [] (by kernel_rfl) (by kernel_rfl) ?_
  simp [hlt,hlt',hf,fltE,hne]
  exact ⟨q + 1,hlt,hmu,hw2⟩
 ·have hlt' : ¬ (q : Int) < (l.length : Int):=by omega
  simp [hlt,hlt']
theorem lent_flt {S : ASt} {o : Nat} {fl : List Flt} (h : get2 S 0 o = some (rwO fl)) : Lent S (.rsl 0 o fl.length 2) (.sl 2 (fl.map fltE)):=by
 refine Lent.row (css:=fl.map fun f=>(fltE f).map AV.p) h (by simp) (by simp) fun r cs row h1 h2=>?_
 rw [List.getElem?_map] at h1 h2
 obtain ⟨f,hf,rfl⟩:=Option.map_eq_some_iff.1 h1
 rw [hf] at h2
 obtain rfl : fltE f = row:=by simpa using h2
 refine ⟨rfl,rfl,fun j c q a b=>?_⟩
 rw [List.getElem?_map,b] at a
 obtain rfl : AV.p q = c:=by simpa using a
 exact .p q
def spoilt (l : List Flt) (i : Nat) : List Flt:=(l.take i).map (fun f=>(f.1,-1)) ++ l.drop i
theorem spoilt_len (l : List Flt) {i : Nat} : (spoilt l i).length = l.length:=by
 unfold spoilt
 rw [List.length_append,List.length_map,List.length_take,List.length_drop]
 omega
theorem spoilt_succ (l : List Flt) (i : Nat) (h : i < l.length) : spoilt l (i + 1) = (spoilt l i).set i (((spoilt l i)[i]'(by rw [spoilt_len]; exact h)).1,-1):=by
 have e1 : ((l.take i).map (fun f : Flt=>(f.1,(-1 : Int)))).length = i:=by rw [List.length_map,List.length_take]; omega
 have e2 : ∀ h0,((spoilt l i)[i]'h0) = l[i]:=fun h0=>by
  have e3 : (spoilt l i)[i]? = some l[i]:=by
   unfold spoilt
   rw [List.getElem?_append_right (by omega),e1,Nat.sub_self,List.getElem?_drop,Nat.add_zero,List.getElem?_eq_getElem h]
  exact Option.some.inj ((List.getElem?_eq_getElem h0).symm.trans e3)
 rw [e2]
 unfold spoilt
 rw [List.set_append_right _ _ (by omega),e1,Nat.sub_self,List.take_succ_eq_append_getElem h,List.map_append,List.drop_eq_getElem_cons h,List.set_cons_zero]
 simp
theorem fl_set : ∀ (l : List Flt) (i : Nat) (h : i < l.length) (b : Int),rowC fltE (l.set i (l[i].1,b)) = (rowC fltE l).set (i * 2 + 1) (I b)
 | e :: l,0,h,b=>rfl
 | e :: l,i + 1,h,b=>by
  have:=fl_set l i (by simpa using h) b
  have e1 : (i + 1) * 2 + 1 = i * 2 + 1 + 1 + 1:=by omega
  have e2 : ∀ (x : Flt) (m : List Flt),rowC fltE (x :: m) = I x.1 :: I x.2 :: rowC fltE m:=fun _ _=>rfl
  rw [List.set_cons_succ,e2,e2,e1,List.set_cons_succ,List.set_cons_succ,← this]
  rfl
theorem fl_len (l : List Flt) : (rowC fltE l).length = l.length * 2:=by
 induction l with
 | nil=>rfl
 | cons e l ih =>
  have e2 : ∀ (x : Flt) (m : List Flt),rowC fltE (x :: m) = I x.1 :: I x.2 :: rowC fltE m:=fun _ _=>rfl
  rw [e2,List.length_cons,List.length_cons,ih,List.length_cons]
  omega
end Go.Proofs.YtfbpibkpmcceaaaGreatDoor
namespace Go.Proofs.YtfbpibkpmcceaaaGreatDoor
open Go.RowKit
attribute [local simp] List.replicate List.range List.range.loop resA resOne retA AV.cuts AV.cut AObj.cut trim wkR wkT wkL wkN wkNR wkNL wkM wkMR wkML
theorem rwO_cut (n : Nat) (fl : List Flt) : AObj.cut n (rwO fl) = rwO fl:=by
 unfold rwO
 show AObj.row _ _ _ (AV.cuts n _) = _
 rw [rowC_cut]
theorem wkT_last {M : List AObj} {o : AObj} {N : Nat} {S : ASt} (hl : M.length + 1 = N) (h : ∀ o ∈ M,∀ m,wkL [o.cut m] [o]) : wkT (trim N ((M ++ [o]) :: S)) ((M ++ [.dead]) :: S):=by
 refine ⟨?_,rfl⟩
 rw [List.take_of_length_le (by rw [List.length_append,List.length_singleton]; omega),List.map_append]
 exact wkL_ex (by cases o <;> trivial) M h
theorem namesCheckO (p : List It) (F : List Flt) (c c2 : Nat) (hC : great p = false → ∀ (L : List AObj),wkL L L → ∀ (R : ASt),ADet Tryz.prog 11 [.agg [.p (prog p)]] (L :: R) (.rsl 0 (L.length + c) F.length 2) ((L ++ (List.replicate c .dead ++ [rwO F])) :: R))
  (hC2 : great p = false → ∀ (L : List AObj),wkL L L → ∀ (R : ASt),ADet Tryz.prog 10 [.agg [.p (prog p)]] (L :: R) (.rsl 0 (L.length + c2) F.length 2) ((L ++ (List.replicate c2 .dead ++ [rwO F])) :: R)) (hle : great p = false → F.length ≤ 20001) (S : ASt) : ADet Tryz.prog 3 [.agg [.p (prog p)]] S (B true) S:=by
 refine ADet.intro mixed Tryz.call3 Tryz.func3 rfl ?_
 simp [Tryz.ntmps3]
 refine ⟨_,_,greatC _ p,?_⟩
 cases hg : great p with
 | true=>simp
 | false =>
  have hsm:=pr_sm hg
  have cC:=fun S=>copiedC p hsm S
  have sC:=fun S=>sameC p S
  have hC:=hC hg
  have hC2:=hC2 hg
  have hle:=hle hg
  simp
  refine ⟨_,_,cC _,?_⟩
  simp
  refine ⟨_,_,hC2 [.cells [.p (prog p)] 24,.cells [.p (prog p)] 24] ⟨⟨rfl,wkR_refl _⟩,⟨rfl,wkR_refl _⟩,trivial⟩ _,?_⟩
  obtain ⟨D2,hD2⟩ : ∃ D2,D2 = List.replicate c2 AObj.dead:=⟨_,rfl⟩
  rw [← hD2]
  have hDl : D2.length = c2:=by rw [hD2,List.length_replicate]
  have hDk : ∀ o ∈ D2,∀ m,wkL [o.cut m] [o]:=fun o ho=>by
   rw [hD2] at ho
   rw [List.eq_of_mem_replicate ho]
   exact fun _=>trivial
  clear hD2 hC2
  have hFk : ∀ m,wkL [(rwO F).cut m] [rwO F]:=fun m=>by rw [rwO_cut]; exact ⟨⟨⟨rfl,rfl,rfl⟩,wkR_refl _⟩,trivial⟩
  have hbk : ∀ m,wkL [(AObj.cells [.p (prog p)] 24).cut m] [AObj.cells [.p (prog p)] 24]:=fun m=>⟨⟨rfl,wkR_refl _⟩,trivial⟩
  simp [-trim,-wkT]
  refine awp_loopN (fun q : Nat=>q ≤ 2) (fun q=>([.any,.ptr 0 0 0,B false,.ptr 0 1 0,.rsl 0 (2 + c2) F.length 2,I q] ++ List.replicate 31 .any)) (fun q=>(.cells [.p (prog p)] 24 :: .cells [.p (prog p)] 24 :: (D2 ++ rwO F :: List.replicate (q * (c + 1)) .dead)) :: S) (fun q=>2 - q) (fun q=>3 + c2 + q * (c + 1)) 0 (by omega) ?_ ?_ ?_ ?_
  ·intro q _
   simp [top,hDl]
   omega
  ·simp
  ·simp
   exact wkL_selfs (m:=0) fun o ho=>by
    rcases List.mem_append.1 ho with h | h
    ·exact hDk o h 0
    ·rw [List.mem_singleton.1 h]; exact hFk 0
  intro q hq
  by_cases hlt : q < 2
  ·have hlt' : (q : Int) < 2:=by omega
   have hw2 : IntKind.i64.wrap ((q : Int) + 1) = ((q + 1 : Nat) : Int):=by rw [IntWalk.i64_in _ (by omega)]; rfl
   have hmu : 2 - (q + 1) < 2 - q:=by omega
   obtain ⟨L,hL⟩ : ∃ L,L = (AObj.cells [.p (prog p)] 24 :: .cells [.p (prog p)] 24 :: (D2 ++ rwO F :: List.replicate (q * (c + 1)) .dead)):=⟨_,rfl⟩
   have hLk : ∀ o ∈ L,∀ m,wkL [o.cut m] [o]:=fun o ho=>by
    rw [hL] at ho
    simp only [List.mem_cons,List.mem_append] at ho
    rcases ho with rfl | rfl | ho | rfl | ho
    ·exact hbk
    ·exact hbk
    ·exact hDk o ho
    ·exact hFk
    ·rw [List.eq_of_mem_replicate ho]; exact fun _=>trivial
   have hLl : L.length = 3 + c2 + q * (c + 1):=by rw [hL]; simp [hDl]; omega
   have hL1 : L[1]? = some (.cells [.p (prog p)] 24):=by rw [hL]; rfl
   have hLc : L[2 + c2]? = some (rwO F):=by
    rw [hL,show 2 + c2 = c2 + 1 + 1 by omega,List.getElem?_cons_succ,List.getElem?_cons_succ,List.getElem?_append_right (by omega),hDl,Nat.sub_self]
    rfl
   obtain ⟨M,hM⟩ : ∃ M,M = L ++ List.replicate c AObj.dead:=⟨_,rfl⟩
   have hMk : ∀ o ∈ M,∀ m,wkL [o.cut m] [o]:=fun o ho=>by
    rw [hM] at ho
    rcases List.mem_append.1 ho with h | h
    ·exact hLk o h
    ·rw [List.eq_of_mem_replicate h]; exact fun _=>trivial
   obtain ⟨m,hm⟩ : ∃ m,m = 3 + c2 + q * (c + 1) + c:=⟨_,rfl⟩
   have hMl : M.length = m:=by rw [hM,hm,List.length_append,hLl,List.length_replicate]
   have hMne : ¬ M = []:=fun h=>by rw [h] at hMl; simp at hMl; omega
   have hMc : ∀ a,(M ++ [a])[2 + c2]? = some (rwO F):=fun a=>by
    rw [List.getElem?_append_left (by rw [hMl]; omega),hM,List.getElem?_append_left (by rw [hLl]; omega)]
    exact hLc
   have hM1 : ∀ a : AObj,(M ++ [a])[1]? = some (.cells [.p (prog p)] 24):=fun a=>by
    rw [List.getElem?_append_left (by rw [hMl]; omega),hM,List.getElem?_append_left (by rw [hLl]; omega)]
    exact hL1
   have hMm : ∀ a : AObj,(M ++ [a])[m]? = some a:=fun a=>by rw [List.getElem?_append_right (by omega),hMl,Nat.sub_self]; rfl
   have hMs : ∀ a b : AObj,(M ++ [a]).set m b = M ++ [b]:=fun a b=>by rw [List.set_append_right _ _ (by omega),hMl,Nat.sub_self]; rfl
   have hC1:=hC L (wkL_selfs (m:=0) fun o ho=>hLk o ho 0) S
   rw [← List.append_assoc,← hM,show L.length + c = m by rw [hLl,hm]] at hC1
   have hend : M ++ [AObj.dead] = (.cells [.p (prog p)] 24 :: .cells [.p (prog p)] 24 :: (D2 ++ rwO F :: List.replicate ((q + 1) * (c + 1)) .dead)):=by
    have e : List.replicate ((q + 1) * (c + 1)) AObj.dead = List.replicate (q * (c + 1)) .dead ++ (List.replicate c .dead ++ [.dead]):=by
     rw [Nat.succ_mul,← List.replicate_append_replicate,← List.replicate_append_replicate (n:=c) (m:=1)]
     rfl
    rw [hM,hL,e]
    simp only [List.append_assoc,List.cons_append]
   rw [← hL]
   have hlend : LentL ((M ++ [rwO F]) :: S) [.rsl 0 m F.length 2,.rsl 0 (2 + c2) F.length 2] [.p (.sl 2 (F.map fltE)),.p (.sl 2 (F.map fltE))]:=.cons (.p (lent_flt (hMm _))) (.cons (.p (lent_flt (hMc _))) .nil)
   have hsf:=ADet.lend (x:=.bool true) rfl (sameFaultsC F (by omega) [[]]) hlend
   have hlF : F.length ≤ maxLen:=by unfold maxLen; omega
   clear hC hM hL
   simp [hlt,hlt',hL1,-trim,-wkT]
   refine ⟨_,_,hC1,?_⟩
   simp [-trim,-wkT]
   refine ⟨_,_,hsf,?_⟩
   simp [-trim,-wkT]
   refine awp_loop (fun i : Nat=>i ≤ F.length) (fun i=>([.any,.ptr 0 0 0,B false,.ptr 0 1 0,.rsl 0 (2 + c2) F.length 2,I q,.rsl 0 m F.length 2,I i] ++ List.replicate 29 .any)) (fun i=>(M ++ [rwO (spoilt F i)]) :: S) (fun i=>F.length - i) 0 (Nat.zero_le _) ?_ ?_ ?_
   ·simp
   ·refine ⟨?_,rfl⟩
    show wkL _ (M ++ [rwO F])
    exact wkL_selfs (m:=0) fun o ho=>by
     rcases List.mem_append.1 ho with h | h
     ·exact hMk o h 0
     ·rw [List.mem_singleton.1 h]; exact hFk 0
   intro i hi
   by_cases hli : i < F.length
   ·have hli' : (i : Int) < (F.length : Int):=by omega
    have hw3:=wrap_succ hli hlF
    have hmu3 : F.length - (i + 1) < F.length - i:=by omega
    have hsl : (spoilt F i).length = F.length:=spoilt_len F
    have hrl:=fl_len (spoilt F i)
    rw [hsl] at hrl
    have hle2 : i * 2 + 1 + 1 ≤ F.length * 2:=by omega
    have hst : AObj.row 32 2 F.length ((rowC fltE (spoilt F i)).set (i * 2 + 1) (I (-1))) = rwO (spoilt F (i + 1)):=by
     rw [← fl_set _ i (by omega),← spoilt_succ F i hli]
     unfold rwO
     rw [spoilt_len]
    have hrw : rwO (spoilt F i) = .row 32 2 F.length (rowC fltE (spoilt F i)):=by unfold rwO; rw [hsl]
    rw [hrw]
    generalize rowC fltE (spoilt F i) = rc at *
    simp [hli,hli',hMm,hMs,hrl,hle2,-trim,-wkT]
    refine ⟨i + 1,hli,hmu3,⟨hMne,by omega,by omega,hw3⟩,?_⟩
    refine wkT_eq (congrArg (fun o=>M ++ [o]) hst) (by rw [List.length_append]; rfl) fun o ho=>?_
    rcases List.mem_append.1 ho with h | h
    ·exact hMk o h _
    ·rw [List.mem_singleton.1 h,rwO_cut]; exact ⟨⟨⟨rfl,rfl,rfl⟩,wkR_refl _⟩,trivial⟩
   ·have hli' : ¬ (i : Int) < (F.length : Int):=by omega
    simp [hli,hli',hMm,-trim,-wkT]
    refine ⟨q + 1,hlt,hmu,⟨by omega,by omega,hw2⟩,?_⟩
    rw [← hend]
    exact wkT_last (by rw [Nat.succ_mul,hMl,hm]; omega) hMk
  ·have hlt' : ¬ (q : Int) < 2:=by omega
   simp [hlt,hlt']
   refine ⟨_,_,sC _,?_⟩
   simp
end Go.Proofs.YtfbpibkpmcceaaaGreatDoor
namespace Go.Proofs.YtfbpibkpmcceaaaGreatDoor
open Go.RowKit
theorem checkA (p : List It) (hg : great p = false) : ∃ c : Nat,∀ (L : List AObj),wkL L L → ∀ (R : ASt),ADet Tryz.prog 11 [.agg [.p (prog p)]] (L :: R) (.rsl 0 (L.length + c) (checkN p).length 2) ((L ++ (List.replicate c .dead ++ [rwO (checkN p)])) :: R):=by
 cases hw : prWhole p with
 | true=>exact ⟨4,fun L hL R=>checkW p hg hw L hL R⟩
 | false=>exact ⟨1,fun L hL R=>checkZ p hg hw L hL R⟩
theorem checkRA (p : List It) (hg : great p = false) (hnn : ∀ x ∈ p,ItNn x) : ∃ c : Nat,∀ (L : List AObj),wkL L L → ∀ (R : ASt),ADet Tryz.prog 10 [.agg [.p (prog p)]] (L :: R) (.rsl 0 (L.length + c) (checkR p).length 2) ((L ++ (List.replicate c .dead ++ [rwO (checkR p)])) :: R):=by
 cases hw : prWhole p with
 | true=>exact ⟨2,fun L hL R=>checkRW p hg hnn hw L hL R⟩
 | false=>exact ⟨1,fun L hL R=>checkRZ p hg hnn hw L hL R⟩
theorem checkR_len (p : List It) (hg : great p = false) : (checkR p).length ≤ 20001:=by
 have h1:=itemsR_len p p 0 []
 have h2:=pr_nd hg
 have h3:=wrongN_len (mainB p mainS) 62 0
 unfold checkR
 split
 ·rw [List.length_append]
  simp only [List.length_nil] at h1
  omega
 ·simp
theorem namesCheckC (p : List It) (hnn : ∀ x ∈ p,ItNn x) (S : ASt) : ADet Tryz.prog 3 [.agg [.p (prog p)]] S (B true) S:=by
 cases hg : great p with
 | true=>exact namesCheckO p [] 0 0 (fun h=>by rw [hg] at h; cases h) (fun h=>by rw [hg] at h; cases h) (fun h=>by rw [hg] at h; cases h) S
 | false =>
  obtain ⟨c,hC⟩:=checkA p hg
  obtain ⟨c2,hC2⟩:=checkRA p hg hnn
  have hle:=checkR_len p hg
  rw [← check_eq p] at hC2 hle
  exact namesCheckO p (checkN p) c c2 (fun _=>hC) (fun _=>hC2) (fun _=>hle) S
end Go.Proofs.YtfbpibkpmcceaaaGreatDoor
