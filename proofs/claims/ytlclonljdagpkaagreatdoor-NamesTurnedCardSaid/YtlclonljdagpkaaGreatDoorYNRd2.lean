/- A part of the proof. The statement is proved in the claim's last text. -/
import Derived.Test.YtlclonljdagpkaaGreatDoorYMLe
import Derived.Test.YtlclonljdagpkaaGreatDoorYMLd
import Derived.Test.YtlclonljdagpkaaGreatDoorYNRa
import Derived.Test.YtlclonljdagpkaaGreatDoorYNQk
set_option linter.unusedVariables false
set_option linter.unusedSimpArgs false
set_option maxRecDepth 100000
set_option maxHeartbeats 32000000
namespace Go.Proofs.YtlclonljdagpkaaGreatDoor
open Go.RowKit
attribute [local simp] List.replicate List.range List.range.loop resA resOne retA AV.cuts AV.cut AObj.cut trim wkR wkT wkL wkN wkNR wkNL wkM wkMR wkML
def hitF (k : Int) (s : ByteArray) (x : It) : Bool:=(x.kind == k) && sEq x.name s
abbrev zItA : List AV:=[U 0,Sg ⟨#[]⟩,.p (.v (.slice none 0 0)),U 0,Sg ⟨#[]⟩,.p (.v (.slice none 0 0)),.p (.v (.slice none 0 0)),U 0,I 0,Sg ⟨#[]⟩,Sg ⟨#[]⟩,Sg ⟨#[]⟩,.p (.v (.slice none 0 0)),.p (.v (.slice none 0 0)),I 0,I 0]
def nmO (m : Nat) (p : List It) : List AObj:=List.replicate 13 .dead ++ (prO (m + 13) p ++ [.dead])
theorem wk_nm {m : Nat} {p : List It} {a b z : AObj} {rc : List AV} {ex : List AObj} (hrc : itsRC 13 p = rc) (hex : itsO p = ex) : wkL (a :: b :: AObj.mrg m .dead :: AObj.mrg m .dead :: AObj.mrg m .dead :: AObj.mrg m .dead :: AObj.mrg m .dead :: AObj.mrg m .dead :: AObj.mrg m .dead :: AObj.mrg m .dead :: AObj.mrg m .dead :: AObj.mrg m .dead :: AObj.mrg m .dead :: AObj.mrg m (.row 42 16 p.length rc) :: (List.map (AObj.mrg m) ex ++ [z])) (nmO m p):=by
 subst hrc hex
 rw [itsO_mrg]
 refine (show wkL (a :: b :: (List.replicate 11 AObj.dead ++ (AObj.row 42 16 p.length (AV.mrgs m (itsRC 13 p)) :: (itsO p ++ [z])))) (nmO m p) from ?_)
 rw [itsRC_mrg]
 have h2 : wkL (prO (m + 13) p ++ [z]) (prO (m + 13) p ++ [.dead]):=by
  have key : ∀ ex : List AObj,(∀ o ∈ ex,wkL [o] [o]) → wkL (ex ++ [z]) (ex ++ [.dead]):=by
   intro ex
   induction ex with
   | nil=>intro _; exact wkL_cons (by cases z <;> trivial) trivial
   | cons o ex ih=>intro hc; exact wkL_cons (hc o (by simp)) (ih fun o ho=>hc o (List.mem_cons_of_mem _ ho))
  exact key _ fun o ho=>wkL_self (prO_wk _ (m + 13) p (Nat.le_refl _) o ho)
 unfold nmO
 have hd : ∀ o : AObj,wkL [o] [.dead]:=fun o=>by cases o <;> trivial
 refine wkL_cons (hd _) (wkL_cons (hd _) ?_)
 have key2 : ∀ n,wkL (List.replicate n AObj.dead ++ (prO (m + 13) p ++ [z])) (List.replicate n AObj.dead ++ (prO (m + 13) p ++ [.dead])):=fun n=>by
  induction n with
  | zero=>exact h2
  | succ n ih=>exact wkL_cons (by trivial) ih
 exact key2 11
theorem wk_deadN {A : List AObj} {N : Nat} (h : A.length = N) : wkL A (List.replicate N .dead):=by
 subst h
 exact wk_dead A
theorem findC (p : List It) (hp : PrSm p) (k : Int) (s : ByteArray) (L : List AObj) (R : ASt) :
  (∀ x ∈ p,hitF k s x = false) ∧ ADet Tryz.prog 25 [.agg [.p (prog p)],U k,Sg s] (L :: R) (.tup [.agg zItA,B false]) ((L ++ List.replicate (14 + 6 * p.length) .dead) :: R) ∨
  ∃ (q : Nat) (h : q < p.length),hitF k s p[q] = true ∧ (∀ j (h : j < p.length),j < q → hitF k s p[j] = false) ∧ ADet Tryz.prog 25 [.agg [.p (prog p)],U k,Sg s] (L :: R) (.tup [.agg (itRC p[q] (L.length + 13 + 6 * q + 4) (L.length + 13 + 6 * q + 5)),B true]) ((L ++ nmO L.length p) :: R):=by
 have cC:=fun M=>copyR p hp M (L :: R)
 have hlp : p.length ≤ 20000:=hp.1
 have hrl:=itsRC_len 13 p
 have hxl:=itsO_len p
 have hself:=itsO_wk (14 + 6 * p.length) p
 have hcut:=itsRC_cut 13 (14 + 6 * p.length) p (by omega)
 obtain ⟨rc,hrc⟩ : ∃ rc,itsRC 13 p = rc:=⟨_,rfl⟩
 obtain ⟨ex,hex⟩ : ∃ ex,itsO p = ex:=⟨_,rfl⟩
 obtain ⟨rc,hrc⟩ : ∃ rc,itsRC 13 p = rc:=⟨_,rfl⟩
 obtain ⟨ex,hex⟩ : ∃ ex,itsO p = ex:=⟨_,rfl⟩
 by_cases hno : ∃ i,∃ h : i < p.length,hitF k s p[i] = true
 ·right
  obtain ⟨i,hi,hit,hlow⟩ : ∃ i,∃ h : i < p.length,hitF k s p[i] = true ∧ ∀ j (h : j < p.length),j < i → hitF k s p[j] = false:=by
   obtain ⟨i,hi,hit⟩:=hno
   induction i using Nat.strongRecOn with
   | _ i ih =>
    by_cases h : ∃ j,∃ h : j < p.length,j < i ∧ hitF k s p[j] = true
    ·obtain ⟨j,hj,hji,hjt⟩:=h
     exact ih j hji hj hjt
    ·refine ⟨i,hi,hit,fun j hj hji=>?_⟩
     cases hh : hitF k s p[j] with
     | false=>rfl
     | true=>exact absurd ⟨j,hj,hji,hh⟩ h
  refine ⟨i,hi,hit,hlow,?_⟩
  have hpart : ∀ q (h : q < p.length),((itsRC 13 p).drop (q * 16)).take 16 = itRC p[q] (13 + 6 * q + 4) (13 + 6 * q + 5):=fun q h=>itsRC_part 13 p q h
  refine ADet.mergeW mixed Tryz.call25 Tryz.func25 rfl ?_
  simp [Tryz.ntmps25]
  refine ⟨_,_,cC _,?_⟩
  simp [prO]
  have hsf : ∀ o ∈ (.cells [.p (prog p)] 24 :: .cells zItA 42 :: .dead :: .dead :: .dead :: .dead :: .dead :: .dead :: .dead :: .dead :: .dead :: .dead :: .dead :: .row 42 16 p.length rc :: ex),wkL [o.cut (14 + 6 * p.length)] [o]:=fun o ho=>by
   simp only [List.mem_cons] at ho
   rcases ho with rfl | rfl | rfl | rfl | rfl | rfl | rfl | rfl | rfl | rfl | rfl | rfl | rfl | rfl | ho
   ·exact ⟨⟨rfl,wkR_refl _⟩,trivial⟩
   ·exact ⟨⟨rfl,wkR_refl _⟩,trivial⟩
   iterate 11 (· trivial)
   ·show wkL [AObj.row _ 16 _ (AV.cuts _ _)] _
    rw [← hrc,hcut]
    exact ⟨⟨⟨rfl,rfl,rfl⟩,wkR_refl _⟩,trivial⟩
   ·rw [← hex] at ho
    exact hself o ho
  rw [hrc] at hcut hpart hrl
  rw [hex] at hxl hself
  rw [hrc,hex]
  have hgl : ((.cells [.p (prog p)] 24 :: .cells zItA 42 :: .dead :: .dead :: .dead :: .dead :: .dead :: .dead :: .dead :: .dead :: .dead :: .dead :: .dead :: .row 42 16 p.length rc :: ex) : List AObj).length = 14 + 6 * p.length:=by simp [hxl]; omega
  have hkeep : ∀ B,wkT (trim (14 + 6 * p.length) (((.cells [.p (prog p)] 24 :: .cells zItA 42 :: .dead :: .dead :: .dead :: .dead :: .dead :: .dead :: .dead :: .dead :: .dead :: .dead :: .dead :: .row 42 16 p.length rc :: ex) ++ B) :: L :: R)) ((.cells [.p (prog p)] 24 :: .cells zItA 42 :: .dead :: .dead :: .dead :: .dead :: .dead :: .dead :: .dead :: .dead :: .dead :: .dead :: .dead :: .row 42 16 p.length rc :: ex) :: L :: R):=fun B=>by
   have:=wk_keep (A:=(.cells [.p (prog p)] 24 :: .cells zItA 42 :: .dead :: .dead :: .dead :: .dead :: .dead :: .dead :: .dead :: .dead :: .dead :: .dead :: .dead :: .row 42 16 p.length rc :: ex)) (B:=B) (by rw [hgl]; exact hsf)
   rw [hgl] at this
   exact ⟨this,rfl⟩
  have hN1 : 1 < 14 + 6 * p.length:=by omega
  have hN2 : 13 < 14 + 6 * p.length:=by omega
  refine awp_loopN (fun q : Nat=>q ≤ i) (fun q=>([.any,U k,Sg s,.any,.any,.any,.ptr 0 1 0,B false,.any,.any,.any,.any,.rsl 0 13 p.length 16,I p.length,I q] ++ List.replicate 16 .any)) (fun _=>(.cells [.p (prog p)] 24 :: .cells zItA 42 :: .dead :: .dead :: .dead :: .dead :: .dead :: .dead :: .dead :: .dead :: .dead :: .dead :: .dead :: .row 42 16 p.length rc :: ex) :: L :: R) (fun q=>p.length - q) (fun _=>14 + 6 * p.length) 0 (Nat.zero_le _) (fun q _=>Nat.le_of_eq hgl) ?_ ⟨wkL_selfs hsf,rfl⟩ ?_
  ·simp
  intro q hq
  have hlt : q < p.length:=by omega
  have hlt' : (q : Int) < (p.length : Int):=by omega
  by_cases hqi : q < i
  ·have hh:=hlow q hlt hqi
   have hqr:=wrap_succ hlt (by unfold maxLen; omega)
   have hp1:=hpart q hlt
   have hq16 : q * 16 + 16 ≤ 16 * p.length:=by omega
   generalize he : p[q] = x at *
   unfold hitF at hh
   by_cases hk : x.kind = k
   ·have hs : sEq x.name s = false:=by simpa [hk] using hh
    simp [hlt,hlt',hrl,hq16,hp1,itRC,hxl,hk,hs,hN1,hN2,List.getElem?_append,-trim,-wkT]
    exact ⟨q + 1,by omega,by omega,hqr,hkeep [_]⟩
   ·have hk' : (x.kind == k) = false:=by simpa using hk
    simp [hlt,hlt',hrl,hq16,hp1,itRC,hxl,hk',hN1,hN2,List.getElem?_append,-trim,-wkT]
    exact ⟨q + 1,by omega,by omega,hqr,hkeep [_]⟩
  ·obtain rfl : q = i:=by omega
   have hqr:=wrap_succ hlt (by unfold maxLen; omega)
   have hp1:=hpart q hlt
   have hq16 : q * 16 + 16 ≤ 16 * p.length:=by omega
   generalize he : p[q] = x at *
   unfold hitF at hit
   simp only [Bool.and_eq_true,beq_iff_eq] at hit
   obtain ⟨hk,hs⟩:=hit
   have e1 : L.length + (13 + 6 * q + 4) = L.length + 13 + 6 * q + 4:=by omega
   have e2 : L.length + (13 + 6 * q + 5) = L.length + 13 + 6 * q + 5:=by omega
   simp [hlt,hlt',hrl,hq16,hp1,itRC,hxl,hk,hs,hN1,hN2,List.getElem?_append,AV.mrg,AV.mrgs,e1,e2,-trim,-wkT,-wkL]
   exact wk_nm hrc hex
 ·left
  have hno' : ∀ x ∈ p,hitF k s x = false:=fun x hx=>by
   obtain ⟨i,hi,rfl⟩:=List.getElem_of_mem hx
   cases h : hitF k s p[i] with
   | false=>rfl
   | true=>exact absurd ⟨i,hi,h⟩ hno
  refine ⟨hno',?_⟩
  have hpart : ∀ q (h : q < p.length),((itsRC 13 p).drop (q * 16)).take 16 = itRC p[q] (13 + 6 * q + 4) (13 + 6 * q + 5):=fun q h=>itsRC_part 13 p q h
  refine ADet.mergeW mixed Tryz.call25 Tryz.func25 rfl ?_
  simp [Tryz.ntmps25]
  refine ⟨_,_,cC _,?_⟩
  simp [prO]
  have hsf : ∀ o ∈ (.cells [.p (prog p)] 24 :: .cells zItA 42 :: .dead :: .dead :: .dead :: .dead :: .dead :: .dead :: .dead :: .dead :: .dead :: .dead :: .dead :: .row 42 16 p.length rc :: ex),wkL [o.cut (14 + 6 * p.length)] [o]:=fun o ho=>by
   simp only [List.mem_cons] at ho
   rcases ho with rfl | rfl | rfl | rfl | rfl | rfl | rfl | rfl | rfl | rfl | rfl | rfl | rfl | rfl | ho
   ·exact ⟨⟨rfl,wkR_refl _⟩,trivial⟩
   ·exact ⟨⟨rfl,wkR_refl _⟩,trivial⟩
   iterate 11 (· trivial)
   ·show wkL [AObj.row _ 16 _ (AV.cuts _ _)] _
    rw [← hrc,hcut]
    exact ⟨⟨⟨rfl,rfl,rfl⟩,wkR_refl _⟩,trivial⟩
   ·rw [← hex] at ho
    exact hself o ho
  rw [hrc] at hcut hpart hrl
  rw [hex] at hxl hself
  rw [hrc,hex]
  have hgl : ((.cells [.p (prog p)] 24 :: .cells zItA 42 :: .dead :: .dead :: .dead :: .dead :: .dead :: .dead :: .dead :: .dead :: .dead :: .dead :: .dead :: .row 42 16 p.length rc :: ex) : List AObj).length = 14 + 6 * p.length:=by simp [hxl]; omega
  have hkeep : ∀ B,wkT (trim (14 + 6 * p.length) (((.cells [.p (prog p)] 24 :: .cells zItA 42 :: .dead :: .dead :: .dead :: .dead :: .dead :: .dead :: .dead :: .dead :: .dead :: .dead :: .dead :: .row 42 16 p.length rc :: ex) ++ B) :: L :: R)) ((.cells [.p (prog p)] 24 :: .cells zItA 42 :: .dead :: .dead :: .dead :: .dead :: .dead :: .dead :: .dead :: .dead :: .dead :: .dead :: .dead :: .row 42 16 p.length rc :: ex) :: L :: R):=fun B=>by
   have:=wk_keep (A:=(.cells [.p (prog p)] 24 :: .cells zItA 42 :: .dead :: .dead :: .dead :: .dead :: .dead :: .dead :: .dead :: .dead :: .dead :: .dead :: .dead :: .row 42 16 p.length rc :: ex)) (B:=B) (by rw [hgl]; exact hsf)
   rw [hgl] at this
   exact ⟨this,rfl⟩
  have hN1 : 1 < 14 + 6 * p.length:=by omega
  have hN2 : 13 < 14 + 6 * p.length:=by omega
  refine awp_loopN (fun q : Nat=>q ≤ p.length) (fun q=>([.any,U k,Sg s,.any,.any,.any,.ptr 0 1 0,B false,.any,.any,.any,.any,.rsl 0 13 p.length 16,I p.length,I q] ++ List.replicate 16 .any)) (fun _=>(.cells [.p (prog p)] 24 :: .cells zItA 42 :: .dead :: .dead :: .dead :: .dead :: .dead :: .dead :: .dead :: .dead :: .dead :: .dead :: .dead :: .row 42 16 p.length rc :: ex) :: L :: R) (fun q=>p.length - q) (fun _=>14 + 6 * p.length) 0 (Nat.zero_le _) (fun q _=>Nat.le_of_eq hgl) ?_ ⟨wkL_selfs hsf,rfl⟩ ?_
  ·simp
  intro q hq
  by_cases hlt : q < p.length
  ·have hlt' : (q : Int) < (p.length : Int):=by omega
   have hh:=hno' _ (List.getElem_mem hlt)
   have hqr:=wrap_succ hlt (by unfold maxLen; omega)
   have hp1:=hpart q hlt
   have hq16 : q * 16 + 16 ≤ 16 * p.length:=by omega
   generalize he : p[q] = x at *
   unfold hitF at hh
   by_cases hk : x.kind = k
   ·have hs : sEq x.name s = false:=by simpa [hk] using hh
    simp [hlt,hlt',hrl,hq16,hp1,itRC,hxl,hk,hs,hN1,hN2,List.getElem?_append,-trim,-wkT]
    exact ⟨q + 1,by omega,by omega,hqr,hkeep [_]⟩
   ·have hk' : (x.kind == k) = false:=by simpa using hk
    simp [hlt,hlt',hrl,hq16,hp1,itRC,hxl,hk',hN1,hN2,List.getElem?_append,-trim,-wkT]
    exact ⟨q + 1,by omega,by omega,hqr,hkeep [_]⟩
  ·have hlt' : ¬ (q : Int) < (p.length : Int):=by omega
   simp [hlt',AV.mrg,AV.mrgs,-trim,-wkT,-wkL]
   exact wk_deadN (by simp [hxl]; omega)
end Go.Proofs.YtlclonljdagpkaaGreatDoor
