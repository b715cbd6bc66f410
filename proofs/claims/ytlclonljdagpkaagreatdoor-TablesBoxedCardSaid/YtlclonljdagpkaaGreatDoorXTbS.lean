/- A part of the proof. The statement is proved in the claim's last text. -/
import Derived.Test.YtlclonljdagpkaaGreatDoorXTbP
import Derived.Test.YtlclonljdagpkaaGreatDoorXNRa
import Derived.Test.YtlclonljdagpkaaGreatDoorXMLe
set_option linter.unusedVariables false
set_option linter.unusedSimpArgs false
set_option maxRecDepth 100000
set_option maxHeartbeats 32000000
namespace Go.Proofs.YtlclonljdagpkaaGreatDoor
open Go.RowKit
structure BxS (p : List It) (rc : List AV) (fs : Nat → List Fi) (A : List AObj) : Prop where
 len : A.length = 14 + 6 * p.length
 keep : ∀ o ∈ A,∀ N,14 + 6 * p.length ≤ N → wkL [o.cut N] [o]
 c0 : A[0]? = some (.cells [.p (prog p)] 24)
 cq : A[12 + 6 * p.length + 1]? = some (.cells [.rsl 0 12 p.length 16] 24)
 rw : A[12]? = some (.row 42 16 p.length rc)
 fl : ∀ j (h : j < p.length),(fs j).length = p[j].fields.length
 fi : ∀ j (h : j < p.length),A[12 + 6 * j + 4]? = some (.row 55 4 p[j].fields.length (rowC Fi.enc (fs j)))
 st : ∀ j (h : j < p.length),A[12 + 6 * j + 5]? = some (.row 45 15 p[j].body.length (rowC St.enc p[j].body))
theorem rowC_lenB {α : Type} {enc : α → List PV} {k : Nat} (h : ∀ x,(enc x).length = k) : ∀ {l : List α},(rowC enc l).length = k * l.length
 | []=>rfl
 | x :: l=>by
  have:=rowC_lenB h (l:=l)
  unfold rowC at *
  simp only [List.map_cons,List.flatten_cons,List.length_append,List.length_map,h,this,List.length_cons]
  rw [Nat.mul_succ,Nat.add_comm]
theorem app_get {α : Type} {A : List α} {k : Nat} {o : α} (h : A[k]? = some o) (z : List α) : (A ++ z)[k]? = some o:=by
 rw [List.getElem?_append_left (List.getElem?_eq_some_iff.1 h).1,h]
theorem app_last {α : Type} {A : List α} {k : Nat} (x : α) (h : A.length = k) : (A ++ [x])[k]? = some x:=by
 subst h; simp
theorem part_get {α : Type} {cs l : List α} {o n : Nat} (h : (cs.drop o).take n = l) {j : Nat} {c : α} (hc : l[j]? = some c) : cs[o + j]? = some c:=by
 subst h
 rw [List.getElem?_take] at hc
 split at hc
 ·rw [List.getElem?_drop] at hc; exact hc
 ·cases hc
theorem part_drop {α : Type} {cs l : List α} {o n : Nat} (h : (cs.drop o).take (n + 1) = l) : (cs.drop (o + 1)).take n = l.drop 1:=by
 rw [← h,List.drop_take,List.drop_drop]
 rfl
theorem rowC_keep {N : Nat} {E : TypeId} {k n : Nat} {α : Type} (enc : α → List PV) (l : List α) : wkL [AObj.cut N (.row E k n (rowC enc l))] [.row E k n (rowC enc l)]:=by
 show wkL [AObj.row E k n (AV.cuts N (rowC enc l))] _
 rw [rowC_cut]
 exact ⟨⟨⟨rfl,rfl,rfl⟩,wkR_refl _⟩,trivial⟩
theorem BxS.set {p : List It} {rc : List AV} {fs : Nat → List Fi} {A : List AObj} (h : BxS p rc fs A) {i : Nat} (hi : i < p.length) (l : List Fi) (hl : l.length = p[i].fields.length) :
  BxS p rc (fun j=>if j = i then l else fs j) (A.set (12 + 6 * i + 4) (.row 55 4 p[i].fields.length (rowC Fi.enc l))):=by
 have hlen:=h.len
 refine ⟨by rw [List.length_set,hlen],fun o ho N hN=>?_,?_,?_,?_,fun j hj=>?_,fun j hj=>?_,fun j hj=>?_⟩
 ·rcases List.mem_or_eq_of_mem_set ho with h1 | rfl
  ·exact h.keep o h1 N hN
  ·exact rowC_keep _ _
 ·rw [List.getElem?_set_ne (by omega)]; exact h.c0
 ·rw [List.getElem?_set_ne (by omega)]; exact h.cq
 ·rw [List.getElem?_set_ne (by omega)]; exact h.rw
 ·by_cases hji : j = i
  ·subst hji; simp [hl]
  ·simp only [hji,if_false]; exact h.fl j hj
 ·by_cases hji : j = i
  ·subst hji
   rw [List.getElem?_set_self (by omega)]
   simp
  ·rw [List.getElem?_set_ne (by omega)]
   simp only [hji,if_false]
   exact h.fi j hj
 ·rw [List.getElem?_set_ne (by omega)]; exact h.st j hj
theorem BxS.init (p : List It) : BxS p (itsRC 12 p) (fun j=>(p.getD j ⟨0,emS,[],.mk 0 emS [],[],.mk 0 0 emS emS ⟨emS,[]⟩ [] 0,0⟩).fields) (.cells [.p (prog p)] 24 :: ((List.replicate 11 .dead ++ prO 12 p) ++ [.cells [.rsl 0 12 p.length 16] 24])):=by
 have hl:=prO_len 12 p
 have get : ∀ k o,(prO 12 p)[k]? = some o → (AObj.cells [.p (prog p)] 24 :: ((List.replicate 11 .dead ++ prO 12 p) ++ [.cells [.rsl 0 12 p.length 16] 24]))[12 + k]? = some o:=fun k o h=>by
  have hk:=(List.getElem?_eq_some_iff.1 h).1
  rw [show 12 + k = (11 + k) + 1 by omega,List.getElem?_cons_succ,List.getElem?_append_left (by simp; omega),List.getElem?_append_right (by simp),List.length_replicate,Nat.add_sub_cancel_left,h]
 have hD : ∀ j (h : j < p.length),p.getD j ⟨0,emS,[],.mk 0 emS [],[],.mk 0 0 emS emS ⟨emS,[]⟩ [] 0,0⟩ = p[j]:=fun j h=>by simp [List.getD,h]
 refine ⟨by simp [hl]; omega,fun o ho N hN=>?_,rfl,?_,get 0 _ rfl,fun j hj=>by rw [hD j hj],fun j hj=>?_,fun j hj=>?_⟩
 ·simp only [List.mem_cons,List.mem_append,List.not_mem_nil,or_false] at ho
  rcases ho with rfl | (ho | ho) | rfl
  ·exact ⟨⟨rfl,wkR_refl _⟩,trivial⟩
  ·rw [List.eq_of_mem_replicate ho]; trivial
  ·exact prO_wk N 12 p (by omega) o ho
  ·show wkL [AObj.cells (AV.cuts _ [.rsl 0 12 p.length 16]) _] _
   have : AV.cuts N [.rsl 0 12 p.length 16] = [.rsl 0 12 p.length 16]:=by
    simp [AV.cuts,AV.cut]; omega
   rw [this]
   exact ⟨⟨rfl,wkR_refl _⟩,trivial⟩
 ·rw [List.getElem?_cons_succ,List.getElem?_append_right (by simp [hl]; omega)]
  have : 12 + 6 * p.length - (List.replicate 11 AObj.dead ++ prO 12 p).length = 0:=by simp [hl]; omega
  rw [this]; rfl
 ·rw [hD j hj,Nat.add_assoc]
  exact get _ _ (prO_get 12 p hj).1
 ·rw [Nat.add_assoc]
  exact get _ _ (prO_get 12 p hj).2
def boxTo (x : It) (k : Nat) : List Fi:=(x.fields.take k).map (boxFi x.kind) ++ x.fields.drop k
theorem boxTo_zero (x : It) : boxTo x 0 = x.fields:=by simp [boxTo]
theorem boxTo_all (x : It) {k : Nat} (h : x.fields.length ≤ k) : boxTo x k = (boxIt x).fields:=by
 unfold boxTo
 rw [List.take_of_length_le h,List.drop_of_length_le h,List.append_nil]
 rfl
theorem boxTo_get (x : It) {k : Nat} (h : k < x.fields.length) : (boxTo x k)[k]? = some x.fields[k]:=by
 unfold boxTo
 rw [List.getElem?_append_right (by simp; omega),List.length_map,List.length_take,Nat.min_eq_left (by omega),Nat.sub_self,List.getElem?_drop,Nat.add_zero,List.getElem?_eq_getElem h]
theorem boxTo_succ (x : It) {k : Nat} (h : k < x.fields.length) : boxTo x (k + 1) = (boxTo x k).set k (boxFi x.kind x.fields[k]):=by
 unfold boxTo
 have hd : x.fields.drop k = x.fields[k] :: x.fields.drop (k + 1):=List.drop_eq_getElem_cons h
 rw [List.take_succ_eq_append_getElem h,List.map_append,List.set_append_right _ _ (by simp; omega)]
 simp [Nat.min_eq_left (Nat.le_of_lt h)]
 rw [hd]
 rfl
theorem rowC_set {α : Type} (enc : α → List PV) (n : Nat) (hn : ∀ x,(enc x).length = n) : ∀ (l : List α) (k : Nat) (y : α) (h : k < l.length),rowC enc (l.set k y) = (rowC enc l).take (k * n) ++ (enc y).map AV.p ++ (rowC enc l).drop (k * n + n)
 | x :: l,0,y,h=>by
  have e : ∀ z,rowC enc (z :: l) = (enc z).map AV.p ++ rowC enc l:=fun z=>rfl
  rw [List.set_cons_zero,e,e,Nat.zero_mul,Nat.zero_add,List.take_zero,List.nil_append,List.drop_append,List.drop_of_length_le (by simp [hn]),List.nil_append]
  simp [hn]
 | x :: l,k + 1,y,h=>by
  have e : ∀ z l,rowC enc (z :: l) = (enc z).map AV.p ++ rowC enc l:=fun z l=>rfl
  rw [List.set_cons_succ,e,e,rowC_set enc n hn l k y (by simpa using h)]
  have hl : ((enc x).map AV.p).length = n:=by simp [hn]
  rw [List.take_append,List.drop_append,hl,List.take_of_length_le (l:=(enc x).map AV.p) (by rw [hl,Nat.add_mul]; omega),List.drop_of_length_le (l:=(enc x).map AV.p) (by rw [hl,Nat.add_mul]; omega)]
  have e1 : (k + 1) * n - n = k * n:=by rw [Nat.add_mul]; omega
  have e2 : (k + 1) * n + n - n = k * n + n:=by rw [Nat.add_mul]; omega
  rw [e1,e2]
  simp
theorem rowC_part {α : Type} (enc : α → List PV) (n : Nat) (hn : ∀ x,(enc x).length = n) : ∀ (l : List α) (k : Nat) (y : α),l[k]? = some y → ((rowC enc l).drop (k * n)).take n = (enc y).map AV.p
 | x :: l,0,y,h=>by
  simp at h
  subst h
  have e : rowC enc (x :: l) = (enc x).map AV.p ++ rowC enc l:=rfl
  rw [e,Nat.zero_mul,List.drop_zero,List.take_append_of_le_length (by simp [hn]),List.take_of_length_le (by simp [hn])]
 | x :: l,k + 1,y,h=>by
  have e : rowC enc (x :: l) = (enc x).map AV.p ++ rowC enc l:=rfl
  have hl : ((enc x).map AV.p).length = n:=by simp [hn]
  rw [e,List.drop_append,hl,List.drop_of_length_le (by rw [hl,Nat.add_mul]; omega),List.nil_append]
  have e1 : (k + 1) * n - n = k * n:=by rw [Nat.add_mul]; omega
  rw [e1]
  exact rowC_part enc n hn l k y (by simpa using h)
end Go.Proofs.YtlclonljdagpkaaGreatDoor
