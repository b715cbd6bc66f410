/- A part of the proof. The statement is proved in the claim's last text. -/
import Derived.Test.YtlclonljdagpkaaGreatDoorXMRoom
import Derived.Test.YtlclonljdagpkaaGreatDoorXMWp
import Derived.Test.YtlclonljdagpkaaGreatDoorXNRb
import Derived.Test.YtlclonljdagpkaaGreatDoorXNPt
import Derived.Test.YtlclonljdagpkaaGreatDoorXMLt
set_option linter.unusedVariables false
set_option linter.unusedSimpArgs false
set_option maxRecDepth 100000
set_option maxHeartbeats 32000000
namespace Go.Proofs.YtlclonljdagpkaaGreatDoor
open Go.RowKit
end Go.Proofs.YtlclonljdagpkaaGreatDoor
namespace Go.Proofs.YtlclonljdagpkaaGreatDoor
open Go.RowKit
attribute [local simp] List.replicate List.range List.range.loop resA resOne retA AV.cuts AV.cut AObj.cut trim wkR wkT wkL wkN wkNR wkNL wkM wkMR wkML
def countF (n : Nat) (s : ByteArray) (e : Int) : Option Nat :=
 match parseF n s with
 | none=>none
 | some p=>if itsDeep0 p ≤ 40 ∧ great p = false then
   match checkT p n with
   | none=>none
   | some fs=>if fs.length ≤ 1000 then some (fs.countP fun f=>f.1 == e) else none
  else none
theorem countP_snoc {α : Type} (f : α → Bool) (l : List α) {q : Nat} (h : q < l.length) : (l.take (q + 1)).countP f = (l.take q).countP f + if f l[q] then 1 else 0:=by
 rw [List.take_succ_eq_append_getElem h,List.countP_append]; simp
theorem countC (n : Nat) (hn : n ≤ 100000) (s : ByteArray) (e : Int) (k : Nat) (h : countF n s e = some k) (S : ASt) : ADet Tryz.prog 38 [Sg s,I e] S (I k) S:=by
 unfold countF at h
 split at h
 ·cases h
 rename_i p hp
 split at h
 case isFalse=>cases h
 rename_i hd
 split at h
 ·cases h
 rename_i fs hfs
 split at h
 case isFalse=>cases h
 rename_i hl
 cases h
 have pC:=fun S=>ADet.lessT (.cons (.refl _) (.cons (.p (.nil 2)) (.refl _))) (programC n hn s p hp hd.1 S)
 have cC:=fun S=>checkC p n (pr_sm hd.2) fs hfs (by omega) S
 refine ADet.intro mixed Tryz.call38 Tryz.func38 rfl ?_
 simp [Tryz.ntmps38]
 refine ⟨_,_,pC _,?_⟩
 simp
 refine ⟨_,_,cC _,?_⟩
 simp
 refine awp_loop (fun q : Nat=>q ≤ fs.length) (fun q=>([.any,I e,.any,.any,.any,.ptr 0 0 0,.any,I ((fs.take q).countP fun f=>f.1 == e),.p (.sl 2 (fs.map fltE)),I q] ++ List.replicate 26 .any)) (fun q=>[.cells [.p (prog p)] 24] :: S) (fun q=>fs.length - q) 0 (Nat.zero_le _) ?_ ?_ ?_
 ·simp
 ·simp
 intro q hq
 by_cases hlt : q < fs.length
 ·have hlt' : (q : Int) < (fs.length : Int):=by omega
  have hT:=countP_snoc (fun f : Flt=>f.1 == e) fs hlt
  have hle:=List.countP_le_length (p:=fun f : Flt=>f.1 == e) (l:=fs.take q)
  rw [List.length_take] at hle
  have hw : IntKind.i64.wrap (((fs.take q).countP fun f=>f.1 == e : Nat) + 1 : Int) = (((fs.take q).countP fun f=>f.1 == e) + 1 : Nat):=by
   rw [IntWalk.i64_in _ (by omega)]; omega
  have hwq:=wrap_succ hlt (by unfold maxLen; omega)
  generalize hf : fs[q] = f at *
  generalize hm : (fs.take q).countP (fun f=>f.1 == e) = m at *
  by_cases hfe : f.1 = e
  ·have hT : (fs.take (q + 1)).countP (fun f=>f.1 == e) = m + 1:=by rw [hT,if_pos (by simpa using hfe)]
   simp [hlt,hlt',hf,fltE,hfe,hw]
   exact ⟨q + 1,hlt,by omega,by rw [hT]; omega,hwq⟩
  ·have hT : (fs.take (q + 1)).countP (fun f=>f.1 == e) = m:=by rw [hT,if_neg (by simpa using hfe)]; rfl
   simp [hlt,hlt',hf,fltE,hfe]
   exact ⟨q + 1,hlt,by omega,by rw [hT],hwq⟩
 ·have : q = fs.length:=by omega
  subst this
  simp
theorem cl1 : countF 300 (⟨#[115,116,114,117,99,116,32,83,32,123,32,97,58,32,105,110,116,44,32,98,58,32,66,111,120,60,83,62,32,125]⟩ : ByteArray) 71 = some 0:=by kernel_rfl
theorem cl2 : countF 300 (⟨#[115,116,114,117,99,116,32,83,32,123,32,97,58,32,83,32,125]⟩ : ByteArray) 71 = some 1:=by kernel_rfl
theorem cl3 : countF 300 (⟨#[101,110,117,109,32,69,32,123,32,65,44,32,66,40,69,41,32,125]⟩ : ByteArray) 71 = some 1:=by kernel_rfl
theorem cl4 : countF 300 (⟨#[115,116,114,117,99,116,32,83,32,123,32,97,58,32,84,32,125,32,115,116,114,117,99,116,32,84,32,123,32,98,58,32,83,32,125]⟩ : ByteArray) 71 = some 2:=by kernel_rfl
theorem cl5 : countF 300 (⟨#[115,116,114,117,99,116,32,83,32,123,32,97,58,32,38,105,110,116,32,125]⟩ : ByteArray) 70 = some 1:=by kernel_rfl
theorem cl6 : countF 300 (⟨#[115,116,114,117,99,116,32,83,32,123,32,97,58,32,67,101,108,108,60,83,62,32,125]⟩ : ByteArray) 70 = some 1:=by kernel_rfl
theorem cl7 : countF 300 (⟨#[115,116,114,117,99,116,32,83,32,123,32,97,58,32,66,111,120,60,38,105,110,116,62,32,125]⟩ : ByteArray) 70 = some 1:=by kernel_rfl
theorem cl8 : countF 300 (⟨#[102,110,32,102,40,97,58,32,38,109,117,116,32,38,105,110,116,41,32,45,62,32,105,110,116,32,123,32,48,32,125]⟩ : ByteArray) 70 = some 0:=by kernel_rfl
theorem cl9 : countF 300 (⟨#[102,110,32,102,40,41,32,45,62,32,38,105,110,116,32,123,32,97,32,125]⟩ : ByteArray) 70 = some 1:=by kernel_rfl
theorem awake07C (S : ASt) : ADet Tryz.prog 12 [] S (B true) S:=by
 refine ADet.intro mixed Tryz.call12 Tryz.func12 rfl ?_
 simp [Tryz.ntmps12]
 refine ⟨_,_,countC 300 (by omega) _ _ _ cl1 _,?_⟩
 simp
 refine ⟨_,_,countC 300 (by omega) _ _ _ cl2 _,?_⟩
 simp
 refine ⟨_,_,countC 300 (by omega) _ _ _ cl3 _,?_⟩
 simp
 refine ⟨_,_,countC 300 (by omega) _ _ _ cl4 _,?_⟩
 simp
 refine ⟨_,_,countC 300 (by omega) _ _ _ cl5 _,?_⟩
 simp
 refine ⟨_,_,countC 300 (by omega) _ _ _ cl6 _,?_⟩
 simp
 refine ⟨_,_,countC 300 (by omega) _ _ _ cl7 _,?_⟩
 simp
 refine ⟨_,_,countC 300 (by omega) _ _ _ cl8 _,?_⟩
 simp
 refine ⟨_,_,countC 300 (by omega) _ _ _ cl9 _,?_⟩
 simp
end Go.Proofs.YtlclonljdagpkaaGreatDoor
