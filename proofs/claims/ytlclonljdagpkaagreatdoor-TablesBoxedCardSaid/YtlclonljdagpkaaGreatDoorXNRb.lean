/- A part of the proof. The statement is proved in the claim's last text. -/
import Derived.Test.YtlclonljdagpkaaGreatDoorXMNp
import Derived.Test.YtlclonljdagpkaaGreatDoorXMWh
import Derived.Test.YtlclonljdagpkaaGreatDoorXNPq
import Derived.Test.YtlclonljdagpkaaGreatDoorXMLx
import Derived.Test.YtlclonljdagpkaaGreatDoorXNAr
import Derived.Test.YtlclonljdagpkaaGreatDoorXMLt
import Derived.Test.YtlclonljdagpkaaGreatDoorXMWi
set_option linter.unusedVariables false
set_option linter.unusedSimpArgs false
set_option maxRecDepth 100000
set_option maxHeartbeats 32000000
namespace Go.Proofs.YtlclonljdagpkaaGreatDoor
open Go.RowKit
attribute [local simp] List.replicate List.range List.range.loop resA resOne retA AV.cuts AV.cut AObj.cut trim wkR wkT wkL wkN wkNR wkNL wkM wkMR wkML
def idxI {α : Type} (p : α → Bool) (l : List α) : Int:=match l.findIdx? p with | some q=>(q : Int) | none=>-1
theorem idx_hit {α : Type} {p : α → Bool} {l : List α} {q : Nat} (h : ∀ i (hi : i < l.length),i < q → p l[i] = false) (hq : q < l.length) (hp : p l[q] = true) : idxI p l = q:=by
 unfold idxI
 have : l.findIdx? p = some q:=by
  rw [List.findIdx?_eq_some_iff_getElem]
  exact ⟨hq,hp,fun j hj=>by simpa using h j (by omega) hj⟩
 rw [this]
theorem idx_none {α : Type} {p : α → Bool} {l : List α} (h : ∀ i (hi : i < l.length),p l[i] = false) : idxI p l = -1:=by
 unfold idxI
 have : l.findIdx? p = none:=by
  rw [List.findIdx?_eq_none_iff]
  intro x hx
  obtain ⟨i,hi,rfl⟩:=List.getElem_of_mem hx
  exact h i hi
 rw [this]
theorem idx_any {α : Type} (p : α → Bool) (l : List α) : decide (0 ≤ idxI p l) = l.any p:=by
 unfold idxI
 cases h : l.findIdx? p with
 | none =>
  rw [List.findIdx?_eq_none_iff] at h
  have : l.any p = false:=by
   rw [List.any_eq_false]
   intro x hx
   simp [h x hx]
  rw [this]; rfl
 | some q =>
  rw [List.findIdx?_eq_some_iff_getElem] at h
  obtain ⟨hq,hp,_⟩:=h
  have : l.any p = true:=List.any_eq_true.2 ⟨_,List.getElem_mem hq,hp⟩
  rw [this]; simp
theorem idx_Type (p : Ty → Bool) (l : List Ty) (K : Nat) (caps : List AV) (S : ASt) (hc : ∀ x ∈ l,∀ L,ADet Tryz.prog K (tyV x :: AV.ups 1 caps) (L :: S) (B (p x)) (L :: S)) :
  ADet Tryz.prog 183 [.p (.sl 3 (l.map Ty.enc)),.fn (.func K) [] caps] S (I (idxI p l)) S:=by
 refine ADet.okP Tryz.call183 0 rfl fun hok=>?_
 have hlen:=okl hok
 refine ADet.intro mixed Tryz.call183 Tryz.func183 rfl ?_
 simp [Tryz.ntmps183]
 refine awp_loop (fun q : Nat=>q ≤ l.length ∧ ∀ i (hi : i < l.length),i < q → p l[i] = false) (fun q=>[.p (.sl 3 (l.map Ty.enc)),.fn (.func K) [] (AV.ups 1 caps),.any,.any,.any,.any,.any,I l.length,I q,.any,.any,.any,.any,.any,.any,.any,.any,.any,.any]) (fun q=>[] :: S) (fun q=>l.length - q) 0 ⟨Nat.zero_le _,fun i hi h=>by omega⟩ ?_ ?_ ?_
 ·simp
 ·simp
 rintro q ⟨hq,hall⟩
 by_cases hlt : q < l.length
 ·have hlt' : (q : Int) < (l.length : Int):=by omega
  generalize hx : l[q] = x
  have hx2:=hc x (by rw [← hx]; exact List.getElem_mem hlt)
  simp [hlt,hlt',hx,tyEnc]
  refine ⟨_,_,hx2 _,?_⟩
  cases hp : p x with
  | true =>
   have:=idx_hit hall hlt (by rw [hx]; exact hp)
   simp [this]
  | false =>
   simp
   exact ⟨q + 1,⟨hlt,fun i hi h=>by
    rcases Nat.lt_or_ge i q with h' | h'
    ·exact hall i hi h'
    ·obtain rfl : i = q:=by omega
     rw [hx]; exact hp⟩,by omega,wrap_succ hlt⟩
 ·have hlt' : ¬ (q : Int) < (l.length : Int):=by omega
  have:=idx_none (p:=p) (l:=l) (fun i hi=>hall i hi (by omega))
  simp [hlt',this]
theorem idx_Item (p : It → Bool) (l : List It) (K : Nat) (caps : List AV) (S : ASt) (hc : ∀ x ∈ l,∀ L,ADet Tryz.prog K (itV x :: AV.ups 1 caps) (L :: S) (B (p x)) (L :: S)) :
  ADet Tryz.prog 184 [.p (.sl 16 (l.map It.enc)),.fn (.func K) [] caps] S (I (idxI p l)) S:=by
 refine ADet.okP Tryz.call184 0 rfl fun hok=>?_
 have hlen:=okl hok
 refine ADet.intro mixed Tryz.call184 Tryz.func184 rfl ?_
 simp [Tryz.ntmps184]
 refine awp_loop (fun q : Nat=>q ≤ l.length ∧ ∀ i (hi : i < l.length),i < q → p l[i] = false) (fun q=>[.p (.sl 16 (l.map It.enc)),.fn (.func K) [] (AV.ups 1 caps),.any,.any,.any,.any,.any,I l.length,I q,.any,.any,.any,.any,.any,.any,.any,.any,.any,.any]) (fun q=>[] :: S) (fun q=>l.length - q) 0 ⟨Nat.zero_le _,fun i hi h=>by omega⟩ ?_ ?_ ?_
 ·simp
 ·simp
 rintro q ⟨hq,hall⟩
 by_cases hlt : q < l.length
 ·have hlt' : (q : Int) < (l.length : Int):=by omega
  generalize hx : l[q] = x
  have hx2:=hc x (by rw [← hx]; exact List.getElem_mem hlt)
  simp [hlt,hlt',hx,It.enc]
  refine ⟨_,_,hx2 _,?_⟩
  cases hp : p x with
  | true =>
   have:=idx_hit hall hlt (by rw [hx]; exact hp)
   simp [this]
  | false =>
   simp
   exact ⟨q + 1,⟨hlt,fun i hi h=>by
    rcases Nat.lt_or_ge i q with h' | h'
    ·exact hall i hi h'
    ·obtain rfl : i = q:=by omega
     rw [hx]; exact hp⟩,by omega,wrap_succ hlt⟩
 ·have hlt' : ¬ (q : Int) < (l.length : Int):=by omega
  have:=idx_none (p:=p) (l:=l) (fun i hi=>hall i hi (by omega))
  simp [hlt',this]
theorem containsTypeC (p : Ty → Bool) (l : List Ty) (K : Nat) (caps : List AV) (S : ASt) (hc : ∀ x ∈ l,∀ L M,ADet Tryz.prog K (tyV x :: AV.ups 1 (AV.ups 1 caps)) (L :: M :: S) (B (p x)) (L :: M :: S)) :
  ADet Tryz.prog 126 [.p (.sl 3 (l.map Ty.enc)),.fn (.func K) [] caps] S (B (l.any p)) S:=by
 refine ADet.intro mixed Tryz.call126 Tryz.func126 rfl ?_
 simp [Tryz.ntmps126]
 refine ⟨_,_,idx_Type p l K (AV.ups 1 caps) _ (fun x hx L=>hc x hx L _),?_⟩
 have:=idx_any p l
 simp [this]
theorem ownedC : ∀ (t : Ty) (S : ASt),ADet Tryz.prog 52 [tyV t] S (B t.owned) S:=by
 refine Ty.ind fun t ih S=>?_
 have cC : ∀ S,ADet Tryz.prog 126 [.p (.sl 3 (t.args.map Ty.enc)),.fn (.func 127) [] []] S (B (t.args.any fun x=>!x.owned)) S:=fun S =>
  containsTypeC _ _ _ _ _ fun x hx L M=>by
   refine ADet.intro mixed Tryz.call127 Tryz.func127 rfl ?_
   simp [Tryz.ntmps127]
   refine ⟨_,_,ih x hx _,?_⟩
   simp
 have hall : (t.args.any fun x=>!x.owned) = !(t.args.all Ty.owned):=by simp [List.all_eq_not_any_not]
 rw [hall] at cC
 rw [owned_eq]
 generalize t.args.all Ty.owned = b at *
 refine ADet.intro mixed Tryz.call52 Tryz.func52 rfl ?_
 by_cases h1 : t.kind = 13
 ·simp [Tryz.ntmps52,h1]
 ·have h1' : (t.kind != 13) = true:=by simpa using h1
  by_cases h2 : t.kind = 14
  ·simp [Tryz.ntmps52,h2]
  ·have h2' : (t.kind != 14) = true:=by simpa using h2
   simp [Tryz.ntmps52,h1',h2']
   refine ⟨_,_,cC _,?_⟩
   simp [h1,h2]
def OkTo (t : Ty) (q : Nat) : Prop:=∀ i (hi : i < t.args.length),i < q → (t.args[i].stands && partOk t.kind t.args[i]) = true
theorem standsC : ∀ (t : Ty) (S : ASt),ADet Tryz.prog 51 [tyV t] S (B t.stands) S:=by
 refine Ty.ind fun t ih S=>?_
 refine ADet.okA Tryz.call51 0 2 rfl rfl fun hok=>?_
 have hlen:=okl hok
 have hse : t.stands = t.args.all fun x=>x.stands && partOk t.kind x:=stands_eq t
 refine ADet.intro mixed Tryz.call51 Tryz.func51 rfl ?_
 simp [Tryz.ntmps51]
 refine awp_loop (fun q : Nat=>q ≤ t.args.length ∧ OkTo t q) (fun q=>([.any,.ptr 0 0 0,.any,.any,.any,.any,.p (.sl 3 (t.args.map Ty.enc)),I t.args.length,I q] ++ List.replicate 31 .any)) (fun q=>[.cells [U t.kind,Sg t.name,.p (.sl 3 (t.args.map Ty.enc))] 33] :: S) (fun q=>t.args.length - q) 0 ⟨Nat.zero_le _,fun i hi h=>by omega⟩ ?_ ?_ ?_
 ·simp
 ·simp
 rintro q ⟨hq,hall⟩
 by_cases hlt : q < t.args.length
 ·have hx:=ih _ (List.getElem_mem hlt)
  have ox:=fun S=>ownedC t.args[q] S
  have hlt' : (q : Int) < (t.args.length : Int):=by omega
  have hno : (t.args[q].stands && partOk t.kind t.args[q]) = false → t.stands = false:=fun h=>by
   rw [hse,List.all_eq_false]
   exact ⟨_,List.getElem_mem hlt,by simp [h]⟩
  have hyes : (t.args[q].stands && partOk t.kind t.args[q]) = true → OkTo t (q + 1):=fun h i hi hiq=>by
   rcases Nat.lt_or_ge i q with h' | h'
   ·exact hall i hi h'
   ·obtain rfl : i = q:=by omega
    exact h
  generalize he : t.args[q] = x at *
  simp [hlt,hlt',he,tyEnc]
  refine ⟨_,_,hx _,?_⟩
  cases hs : x.stands with
  | false =>
   have:=hno (by simp [partOk,hs])
   simp [this]
  | true =>
   by_cases h6 : t.kind = 6
   ·by_cases h3 : 3 < x.kind
    ·have:=hno (by simp [partOk,hs,h6,h3])
     simp [h6,h3,this]
    ·simp [h6,h3]
     refine ⟨_,_,ox _,?_⟩
     cases ho : x.owned with
     | false =>
      have:=hno (by simp [partOk,hs,h6,h3,ho])
      simp [this]
     | true =>
      simp
      exact ⟨q + 1,⟨hlt,hyes (by simp [partOk,hs,h6,h3,ho])⟩,by omega,wrap_succ hlt⟩
   ·have h6' : (t.kind == 6) = false:=by simpa using h6
    by_cases h13 : t.kind = 13
    ·simp [h13]
     exact ⟨q + 1,⟨hlt,hyes (by simp [partOk,hs,h13])⟩,by omega,wrap_succ hlt⟩
    ·by_cases h14 : t.kind = 14
     ·simp [h14]
      exact ⟨q + 1,⟨hlt,hyes (by simp [partOk,hs,h14])⟩,by omega,wrap_succ hlt⟩
     ·have h13' : (t.kind != 13) = true:=by simpa using h13
      have h14' : (t.kind != 14) = true:=by simpa using h14
      simp [h6',h13',h14']
      refine ⟨_,_,ox _,?_⟩
      cases ho : x.owned with
      | false =>
       have:=hno (by simp [partOk,hs,h6,h13,h14,ho])
       simp [this]
      | true =>
       simp
       exact ⟨q + 1,⟨hlt,hyes (by simp [partOk,hs,h6,h13,h14,ho])⟩,by omega,wrap_succ hlt⟩
 ·have hlt' : ¬ (q : Int) < (t.args.length : Int):=by omega
  have : t.stands = true:=by
   rw [hse,List.all_eq_true]
   intro x hx
   obtain ⟨i,hi,rfl⟩:=List.getElem_of_mem hx
   exact hall i hi (by omega)
  simp [hlt',this]
abbrev itZ0 : AV:=.agg [U 0,Sg emS,nilS,U 0,Sg emS,nilS,nilS,U 0,I 0,Sg emS,Sg emS,Sg emS,nilS,nilS,I 0,I 0]
theorem idx_find {α : Type} (p : α → Bool) (l : List α) : (l.find? p = none ∧ idxI p l = -1) ∨ ∃ q,∃ h : q < l.length,l.find? p = some l[q] ∧ idxI p l = q:=by
 unfold idxI
 cases h : l.findIdx? p with
 | none =>
  rw [List.findIdx?_eq_none_iff] at h
  refine .inl ⟨?_,rfl⟩
  rw [List.find?_eq_none]
  intro x hx
  simp [h x hx]
 | some q =>
  rw [List.findIdx?_eq_some_iff_getElem] at h
  obtain ⟨hq,hp,hn⟩:=h
  refine .inr ⟨q,hq,?_,rfl⟩
  rw [List.find?_eq_some_iff_getElem]
  exact ⟨hp,q,hq,rfl,fun j hj=>by simpa using hn j hj⟩
def firstR (p : List It) (nm : ByteArray) : AV:=match firstIt p nm with | some x=>.tup [itV x,B true] | none=>.tup [itZ0,B false]
theorem firstC (p : List It) (nm : ByteArray) (S : ASt) : ADet Tryz.prog 129 [.agg [.p (prog p)],Sg nm] S (firstR p nm) S:=by
 refine ADet.okA Tryz.call129 0 0 rfl rfl fun hok=>?_
 have hlen:=okl hok
 have iC : ∀ L : List AObj,get2 (L :: S) 0 1 = some (.cells [Sg nm] 9) → ADet Tryz.prog 184 [.p (.sl 16 (p.map It.enc)),.fn (.func 185) [] [.ptr 0 1 0]] (L :: S) (I (idxI (fun x : It=>(decide (x.kind ≠ 3)) && sEq x.name nm) p)) (L :: S):=fun L hL =>
  idx_Item _ _ _ _ _ fun x hx M=>by
   have hg : get2 (M :: L :: S) 1 1 = some (.cells [Sg nm] 9):=hL
   refine ADet.intro mixed Tryz.call185 Tryz.func185 rfl ?_
   by_cases h3 : x.kind = 3
   ·simp [Tryz.ntmps185,h3]
   ·have h3' : (x.kind != 3) = true:=by simpa using h3
    simp only [get2_cons] at hg
    simp [Tryz.ntmps185,h3',h3,hL]
 refine ADet.intro mixed Tryz.call129 Tryz.func129 rfl ?_
 simp [Tryz.ntmps129,prog]
 refine ⟨_,_,iC _ rfl,?_⟩
 unfold firstR firstIt
 rcases idx_find (fun x : It=>(decide (x.kind ≠ 3)) && sEq x.name nm) p with ⟨h1,h2⟩ | ⟨q,hq,h1,h2⟩
 ·rw [h1,h2]
  simp
 ·rw [h1,h2]
  have hq' : (q : Int) < (p.length : Int):=by omega
  have hq2 : ¬ (q : Int) < 0:=by omega
  simp [hq,hq',hq2,It.enc]
def goneM (g : List ByteArray) : AObj:=.map (g.map fun s=>(.string s,I 1))
theorem find_gone (s : ByteArray) : ∀ (l : List ByteArray) (i : Nat),∃ j,mapFind .string (.string s) (l.map fun s=>(.string s,I 1)) i = some (if l.any (fun g=>sEq s g) = true then some (j,I 1) else none)
 | [],i=>⟨0,rfl⟩
 | t :: l,i=>by
  rw [List.map_cons,mapFind_str,List.any_cons]
  cases sEq s t with
  | true=>exact ⟨i,rfl⟩
  | false=>exact find_gone s l (i + 1)
structure FdAt (p : List It) (x : It) (S : ASt) (d : Nat) (g : List ByteArray) : Prop where
 o0 : get2 S d 0 = some (.cells [.p (prog p)] 24)
 o1 : get2 S d 1 = some (.cells (itU x) 42)
 o2 : get2 S d 2 = some (goneM g)
 o3 : get2 S d 3 = some (.cells [.mp 0 2] 178)
 o4 : get2 S d 4 = some (.cells [.fn (.func 128) [] [.ptr 0 1 0,.ptr 0 3 0,.ptr 0 0 0,.ptr 0 4 0]] 99)
theorem FdAt.push {p : List It} {x : It} {S : ASt} {d : Nat} {g : List ByteArray} (h : FdAt p x S d g) (L : List AObj) : FdAt p x (L :: S) (d + 1) g:=⟨h.o0,h.o1,h.o2,h.o3,h.o4⟩
theorem FdAt.upd {p : List It} {x : It} {S : ASt} {d : Nat} {g : List ByteArray} (h : FdAt p x S d g) (g' : List ByteArray) : FdAt p x (set2 S d 2 (goneM g')) d g':=by
 refine ⟨?_,?_,?_,?_,?_⟩
 ·rw [get2_set _ h.o2,if_neg (by simp)]; exact h.o0
 ·rw [get2_set _ h.o2,if_neg (by simp)]; exact h.o1
 ·rw [get2_set _ h.o2,if_pos ⟨rfl,rfl⟩]
 ·rw [get2_set _ h.o2,if_neg (by simp)]; exact h.o3
 ·rw [get2_set _ h.o2,if_neg (by simp)]; exact h.o4
theorem FdAt.same {p : List It} {x : It} {S : ASt} {d : Nat} {g : List ByteArray} (h : FdAt p x S d g) : set2 S d 2 (goneM g) = S:=set2_same h.o2
def FdC (p : List It) (x : It) (y : It) (g : List ByteArray) (b : Bool) (g' : List ByteArray) : Prop:=∀ (S : ASt) (d : Nat),FdAt p x S d g → ADet Tryz.prog 128 [itV y,.ptr d 1 0,.ptr d 3 0,.ptr d 0 0,.ptr d 4 0] S (B b) (set2 S d 2 (goneM g'))
theorem FdC.at {p : List It} {x y : It} {g g1 g2 : List ByteArray} {b : Bool} (hw : FdC p x y g1 b g2) {S : ASt} {d : Nat} (h : FdAt p x S d g) (L : List AObj) :
  ADet Tryz.prog 128 [itV y,.ptr (d + 1) 1 0,.ptr (d + 1) 3 0,.ptr (d + 1) 0 0,.ptr (d + 1) 4 0] (L :: set2 S d 2 (goneM g1)) (B b) (L :: set2 S d 2 (goneM g2)):=by
 have:=hw _ _ ((h.upd g1).push L)
 rw [set2_suc,set2_set2] at this
 exact this
theorem foundC (p : List It) (x : It) : ∀ (N : Nat) (y : It) (g : List ByteArray) (b : Bool) (g' : List ByteArray),foundF p x.name N y.fields g = some (b,g') → FdC p x y g b g':=by
 intro N
 induction N using Nat.strongRecOn with
 | _ N IH =>
 intro y g b g' hf S d hF
 refine ADet.okA Tryz.call128 0 2 rfl rfl fun hok=>?_
 have hlen:=okl hok
 have key : ADet Tryz.prog 128 [itV y,.ptr d 1 0,.ptr d 3 0,.ptr d 0 0,.ptr d 4 0] (set2 S d 2 (goneM g)) (B b) (set2 S d 2 (goneM g')):=by
  refine ADet.introQ mixed Tryz.call128 Tryz.func128 rfl (by kernel_rfl) ?_
  simp [Tryz.ntmps128]
  refine awq_loop (fun a : Nat × Nat × List ByteArray=>a.1 ≤ y.fields.length ∧ a.2.1 ≤ N ∧ foundF p x.name a.2.1 (y.fields.drop a.1) a.2.2 = some (b,g')) (fun a=>([.any,.ptr (d + 1) 1 0,.ptr (d + 1) 3 0,.ptr (d + 1) 0 0,.ptr (d + 1) 4 0,.ptr 0 0 0,.any,B false,.any,.any,.any,.any,.any,.p (.sl 4 (y.fields.map Fi.enc)),I y.fields.length,I a.1] ++ List.replicate 44 .any)) (fun a=>[.cells (itU y) 42] :: set2 S d 2 (goneM a.2.2)) (fun a=>y.fields.length - a.1) (0,N,g) ⟨Nat.zero_le _,Nat.le_refl _,hf⟩ ?_ ?_ ?_
  ·simp
  ·simp
  rintro ⟨q,k,g1⟩ ⟨hq,hk,hg⟩
  simp only at hq hk hg
  have hF1:=hF.upd g1
  by_cases hlt : q < y.fields.length
  ·have hlt' : (q : Int) < (y.fields.length : Int):=by omega
   have hd : y.fields.drop q = y.fields[q] :: y.fields.drop (q + 1):=List.drop_eq_getElem_cons hlt
   have hw:=wrap_succ hlt
   have hm : y.fields.length - (q + 1) < y.fields.length - q:=by omega
   rw [hd] at hg
   cases k with
   | zero=>simp [foundF] at hg
   | succ k =>
   generalize he : y.fields[q] = f at *
   simp only [foundF] at hg
   have o1:=hF1.o1
   have o0:=hF1.o0
   have o2:=hF1.o2
   have o3:=hF1.o3
   have o4:=hF1.o4
   simp only [goneM] at o0 o1 o2 o3 o4
   by_cases h4 : f.type.kind = 4
   ·rw [if_neg (by simp [h4])] at hg
    by_cases hn : sEq f.type.name x.name = true
    ·rw [if_pos hn] at hg
     cases hg
     simp [hlt,hlt',he,Fi.enc,h4,o1,hn,goneM]
    ·rw [if_neg hn] at hg
     have hn' : sEq f.type.name x.name = false:=by simpa using hn
     obtain ⟨j,hj⟩:=find_gone f.type.name g1 0
     by_cases ha : g1.any (fun g=>sEq f.type.name g) = true
     ·rw [if_pos ha] at hg
      rw [if_pos ha] at hj
      simp [hlt,hlt',he,Fi.enc,h4,o1,o2,o3,hn',goneM,hj]
      exact ⟨q + 1,k,g1,⟨hlt,by omega,hg⟩,by omega,hw,rfl⟩
     ·rw [if_neg ha] at hg
      rw [if_neg ha] at hj
      have hF2:=hF.upd (g1 ++ [f.type.name])
      have p0:=hF2.o0
      have p4:=hF2.o4
      have fC:=fun S=>firstC p f.type.name S
      have hw1 : IntKind.i64.wrap 1 = 1:=by decide
      simp only [goneM,List.map_append,List.map_cons,List.map_nil] at p0 p4
      simp [hlt,hlt',he,Fi.enc,h4,o1,o2,o3,hn',goneM,hj,hw1,p0]
      refine ⟨_,_,fC _,?_⟩
      unfold firstR
      cases hfi : firstIt p f.type.name with
      | none =>
       rw [hfi] at hg
       simp
       exact ⟨q + 1,k,g1 ++ [f.type.name],⟨hlt,by omega,hg⟩,by omega,hw,by simp⟩
      | some z =>
       rw [hfi] at hg
       dsimp only at hg
       cases h5 : foundF p x.name k z.fields (g1 ++ [f.type.name]) with
       | none=>rw [h5] at hg; cases hg
       | some r =>
        obtain ⟨b1,g2⟩:=r
        have hZ:=fun L=>(IH k (by omega) z _ b1 g2 h5).at hF L
        simp only [goneM,List.map_append,List.map_cons,List.map_nil] at hZ
        simp [p4]
        refine ⟨_,_,hZ _,?_⟩
        cases b1 with
        | true =>
         rw [h5] at hg
         cases hg
         simp
        | false =>
         rw [h5] at hg
         simp
         exact ⟨q + 1,k,g2,⟨hlt,by omega,hg⟩,by omega,hw,rfl⟩
   ·rw [if_pos h4] at hg
    have h4' : (f.type.kind != 4) = true:=by simpa using h4
    simp [hlt,hlt',he,Fi.enc,h4']
    exact ⟨q + 1,k,g1,⟨hlt,by omega,hg⟩,by omega,hw,rfl⟩
  ·have hlt' : ¬ (q : Int) < (y.fields.length : Int):=by omega
   rw [List.drop_of_length_le (by omega)] at hg
   have : b = false ∧ g1 = g':=by cases k <;> simp [foundF] at hg <;> exact ⟨by first | exact hg.1 | exact hg.1.symm,by first | exact hg.2 | exact hg.2.symm⟩
   obtain ⟨rfl,rfl⟩:=this
   simp [hlt']
 rw [hF.same] at key
 exact key
theorem itselfC (p : List It) (x : It) (n : Nat) (b : Bool) (g' : List ByteArray) (h : foundF p x.name n x.fields [] = some (b,g')) (S : ASt) : ADet Tryz.prog 54 [.agg [.p (prog p)],itV x] S (B b) S:=by
 have fC:=foundC p x n x [] b g' h
 refine ADet.intro mixed Tryz.call54 Tryz.func54 rfl ?_
 simp [Tryz.ntmps54]
 refine ⟨_,_,fC _ 0 ⟨rfl,rfl,rfl,rfl,rfl⟩,?_⟩
 simp
end Go.Proofs.YtlclonljdagpkaaGreatDoor
namespace Go.Proofs.YtlclonljdagpkaaGreatDoor
open Go.RowKit
attribute [local simp] List.replicate List.range List.range.loop resA resOne retA AV.cuts AV.cut AObj.cut trim wkR wkT wkL wkN wkNR wkNL wkM wkMR wkML virtL virtO virt_get markL markO markR_get rowA awpI_nil awpI_cons List.forall_mem_cons List.contains_cons List.contains_nil List.find? nextD_eq awpD_nil awpD_cons LCp LCl refL
def lkO (l : List Flt) : AObj:=.cells [.osl 2 (l.map fltE) 0 2] 105
def ltO (l : List Flt) : AObj:=.tok 48 2 l.length
structure LkAt (S : ASt) (d : Nat) (l : List Flt) : Prop where
 o : get2 S d 1 = some (lkO l)
 t : get2 S d 2 = some (ltO l)
def updL (S : ASt) (d : Nat) (l : List Flt) : ASt:=set2 (set2 S d 1 (lkO l)) d 2 (ltO l)
theorem LkAt.push {S : ASt} {d : Nat} {l : List Flt} (h : LkAt S d l) (L : List AObj) : LkAt (L :: S) (d + 1) l:=⟨h.o,h.t⟩
theorem LkAt.upd {S : ASt} {d : Nat} {l : List Flt} (h : LkAt S d l) (q : List Flt) : LkAt (updL S d q) d q:=by
 refine ⟨?_,?_⟩
 ·unfold updL
  rw [get2_set2_ne _ _ _ (by omega),get2_set2,h.o]; rfl
 ·unfold updL
  rw [get2_set2,get2_set2_ne _ _ _ (by omega),h.t]; rfl
theorem updL_updL (S : ASt) (d : Nat) (p q : List Flt) : updL (updL S d p) d q = updL S d q:=by
 unfold updL
 rw [set2_comm (i:=1) (j:=2) _ _ _ _ (by omega),set2_set2,set2_set2]
theorem updL_suc (L : List AObj) (S : ASt) (d : Nat) (p : List Flt) : updL (L :: S) (d + 1) p = L :: updL S d p:=by
 unfold updL; rw [set2_suc,set2_suc]
theorem LkAt.same {S : ASt} {d : Nat} {l : List Flt} (h : LkAt S d l) : updL S d l = S:=by
 unfold updL
 rw [set2_same h.o,set2_same h.t]
def LkC (F : Nat) (args : List AV) (l l' : List Flt) : Prop:=∀ (S : ASt) (d : Nat),LkAt S d l → ADet Tryz.prog F (.ptr d 1 0 :: args) S .un (updL S d l')
theorem LkC.at {F : Nat} {args : List AV} {l l1 l2 : List Flt} (hw : LkC F args l1 l2) {S : ASt} {d : Nat} (h : LkAt S d l) (L : List AObj) : ADet Tryz.prog F (.ptr (d + 1) 1 0 :: args) (L :: updL S d l1) .un (L :: updL S d l2):=by
 have:=hw _ _ ((h.upd l1).push L)
 rw [updL_suc,updL_updL] at this
 exact this
theorem LkC.intro {F : Nat} {args : List AV} {l l' : List Flt} (hw : ∀ (S : ASt) (d : Nat),LkAt S d l → ADet Tryz.prog F (.ptr d 1 0 :: args) (updL S d l) .un (updL S d l')) : LkC F args l l':=fun S d h=>by
 have:=hw S d h
 rw [h.same] at this
 exact this
theorem updL_app {S : ASt} {d : Nat} (l : List Flt) (x : Flt) : set2 (set2 (updL S d l) d 2 (ltO (l ++ [x]))) d 1 (lkO (l ++ [x])) = updL S d (l ++ [x]):=by
 unfold updL
 rw [set2_set2,set2_comm _ d (j:=2) (i:=1) _ _ (by omega),set2_set2]
theorem wrongW (holds : Bool) (e a : Int) (l : List Flt) (hl : l.length + 1 ≤ 4294967296) : LkC 50 [B holds,I e,I a] l (l ++ wrongL holds e a):=LkC.intro fun S d h=>by
 have ho:=(h.upd l).o
 have ht:=(h.upd l).t
 unfold wrongL
 refine ADet.intro mixed Tryz.call50 Tryz.func50 rfl ?_
 cases holds with
 | true=>simp [Tryz.ntmps50]
 | false =>
  have hu:=updL_app (S:=S) (d:=d) l (e,a)
  simp only [lkO,ltO,updL,List.map_append,List.map_cons,List.map_nil,fltE,List.length_append,List.length_cons,List.length_nil] at ho ht hu
  have ho0:=h.o
  have ht0:=h.t
  simp only [lkO,ltO] at ho0 ht0
  have n1:=fun (T : ASt) o=>get2_set2_ne T d (i:=2) (j:=1) o (by omega)
  have n2:=fun (T : ASt) o=>get2_set2_ne T d (i:=1) (j:=2) o (by omega)
  simp [Tryz.ntmps50,ho0,ht0,n1,n2,hl,updL,lkO,ltO]
  simpa [fltE] using hu
theorem tabss_flat (l : List St) : St.tabss l = l.flatMap St.tabs:=by
 induction l with
 | nil=>rfl
 | cons s l ih=>rw [St.tabss,ih]; rfl
theorem arTabss_flat (l : List Ar) : Ar.tabss l = l.flatMap fun a=>St.tabss a.body:=by
 induction l with
 | nil=>rfl
 | cons a l ih=>obtain ⟨v,n,b⟩:=a; rw [Ar.tabss,ih]; rfl
theorem stTabs (s : St) : s.tabs = wrongL ((s.op != 12) || (s.type.stands && s.type.owned)) 70 s.pos ++ (St.tabss s.body ++ (St.tabss s.els ++ s.arms.flatMap fun a=>St.tabss a.body)):=by
 cases s; rw [St.tabs,arTabss_flat]; rfl
theorem tabss_snoc (l : List St) {q : Nat} (h : q < l.length) : St.tabss (l.take (q + 1)) = St.tabss (l.take q) ++ l[q].tabs:=by
 rw [tabss_flat,tabss_flat,List.take_succ_eq_append_getElem h,List.flatMap_append]; simp
theorem take_flat_le {α β : Type} (f : α → List β) (l : List α) (q : Nat) : ((l.take q).flatMap f).length ≤ (l.flatMap f).length:=by
 have : l.flatMap f = (l.take q).flatMap f ++ (l.drop q).flatMap f:=by rw [← List.flatMap_append,List.take_append_drop]
 rw [this,List.length_append]; omega
def SsC (ss : List St) : Prop:=∀ l,l.length + (St.tabss ss).length ≤ 4000000000 → LkC 53 [.p (.sl 15 (ss.map St.enc))] l (l ++ St.tabss ss)
theorem stmtsL (ss : List St) (hq : ∀ s ∈ ss,SsC s.body ∧ SsC s.els ∧ ∀ a ∈ s.arms,SsC a.body) : SsC ss:=by
 intro l hl
 refine LkC.intro fun S d h=>?_
 refine ADet.okP Tryz.call53 1 rfl fun hok=>?_
 have hlen:=okl hok
 obtain ⟨F,hF⟩ : ∃ F : Nat → List Flt,F = fun q=>l ++ St.tabss (ss.take q):=⟨_,rfl⟩
 have hF0 : F 0 = l:=by rw [hF]; simp [St.tabss]
 have hFn : F ss.length = l ++ St.tabss ss:=by rw [hF]; simp
 have hFb : ∀ q,(F q).length ≤ 4000000000:=fun q=>by
  rw [hF]
  have:=take_flat_le St.tabs ss q
  rw [← tabss_flat,← tabss_flat] at this
  simp only [List.length_append]; omega
 have hFs : ∀ q (h : q < ss.length),F (q + 1) = F q ++ ss[q].tabs:=fun q h=>by rw [hF]; simp only [tabss_snoc _ h,List.append_assoc]
 clear hF
 rw [← hFn]
 refine ADet.intro mixed Tryz.call53 Tryz.func53 rfl ?_
 simp [Tryz.ntmps53]
 refine awp_loop (fun q : Nat=>q ≤ ss.length) (fun q=>([.ptr (d + 1) 1 0,.any,.any,.any,.any,.any,.any,.any,.p (.sl 15 (ss.map St.enc)),I ss.length,I q] ++ List.replicate 41 .any)) (fun q=>[] :: updL S d (F q)) (fun q=>ss.length - q) 0 (Nat.zero_le _) ?_ ?_ ?_
 ·simp
 ·simp [hF0]
 intro q hq1
 by_cases hlt : q < ss.length
 ·have hlt' : (q : Int) < (ss.length : Int):=by omega
  obtain ⟨qb,qe,qa⟩:=hq _ (List.getElem_mem hlt)
  have hF1:=hFs q hlt
  have hb1:=hFb (q + 1)
  have hoks : PVok (.sl 3 (ss[q].arms.map Ar.enc)):=(st_ok hok (List.getElem_mem hlt)).2.2.2.2.2.2
  have hlena:=okl hoks
  have hw:=wrap_succ hlt
  have hmu : ss.length - (q + 1) < ss.length - q:=by omega
  generalize he : ss[q] = s at *
  rw [stTabs] at hF1
  obtain ⟨hold,hh⟩ : ∃ b,b = ((s.op != 12) || (s.type.stands && s.type.owned)):=⟨_,rfl⟩
  rw [← hh] at hF1
  obtain ⟨W1,hW1⟩ : ∃ W,W = F q ++ wrongL hold 70 s.pos:=⟨_,rfl⟩
  obtain ⟨W2,hW2⟩ : ∃ W,W = W1 ++ St.tabss s.body:=⟨_,rfl⟩
  obtain ⟨W3,hW3⟩ : ∃ W,W = W2 ++ St.tabss s.els:=⟨_,rfl⟩
  obtain ⟨G,hG⟩ : ∃ G : Nat → List Flt,G = fun k=>W3 ++ (s.arms.take k).flatMap fun a=>St.tabss a.body:=⟨_,rfl⟩
  have hG0 : G 0 = W3:=by rw [hG]; simp
  have hGn : G s.arms.length = F (q + 1):=by rw [hG,hF1,hW3,hW2,hW1]; simp
  have hGs : ∀ k (h : k < s.arms.length),G (k + 1) = G k ++ St.tabss s.arms[k].body:=fun k h=>by
   rw [hG]; simp only [List.take_succ_eq_append_getElem h,List.flatMap_append,List.append_assoc]; simp
  have hGb : ∀ k,k ≤ s.arms.length → (G k).length ≤ 4000000000:=fun k hk=>by
   have:=take_flat_le (fun a : Ar=>St.tabss a.body) s.arms k
   rw [← hGn] at hb1
   rw [hG] at hb1 ⊢
   simp only [List.length_append,List.take_length] at hb1 ⊢
   omega
  have hb3 : W3.length ≤ 4000000000:=by rw [← hG0]; exact hGb 0 (Nat.zero_le _)
  have hb2 : W2.length + (St.tabss s.els).length ≤ 4000000000:=by rw [hW3,List.length_append] at hb3; exact hb3
  have hb21 : W1.length + (St.tabss s.body).length ≤ 4000000000:=by rw [hW2,List.length_append] at hb2; omega
  have wC:=fun L=>(wrongW hold 70 s.pos (F q) (by have:=hFb q; omega)).at h L
  have bC:=fun L=>(qb W1 hb21).at h L
  have eC:=fun L=>(qe W2 hb2).at h L
  rw [← hW2] at bC
  rw [← hW3] at eC
  rw [← hW1] at wC
  have rest : ∀ {fr' : List AV} {Q : Exit → List AV → ASt → Prop},True:=fun {_ _}=>trivial
  clear hW1 hW2 hW3 hF1 hFs
  by_cases h12 : s.op = 12
  ·cases hs : s.type.stands with
   | false =>
    have : hold = false:=by rw [hh,h12,hs]; rfl
    subst this
    simp [hlt,hlt',he,stEnc]
    refine awp_draw [(15,7),(15,11)] (by kernel_rfl) (by kernel_rfl) ?_
    simp [h12]
    refine ⟨_,_,standsC s.type _,?_⟩
    rw [hs]
    simp
    refine ⟨_,_,wC _,?_⟩
    simp
    refine ⟨_,_,bC _,?_⟩
    simp
    refine ⟨_,_,eC _,?_⟩
    simp
    refine awp_loop (fun k : Nat=>k ≤ s.arms.length) (fun k=>([.ptr (d + 1) 1 0,.any,.any,.any,.any,.any,.any,.any,.p (.sl 15 (ss.map St.enc)),I ss.length,I q] ++ (List.replicate 29 .any ++ [.p (.sl 3 (s.arms.map Ar.enc)),I s.arms.length,I k,.any,.any,.any,.any,.any,.any,.any,.any,.any]))) (fun k=>[.cells (stU s) 45] :: updL S d (G k)) (fun k=>s.arms.length - k) 0 (Nat.zero_le _) ?_ ?_ ?_
    ·simp
    ·simp [hG0,h12]
    intro k hk1
    by_cases hkt : k < s.arms.length
    ·have hkt' : (k : Int) < (s.arms.length : Int):=by omega
     have hG1:=hGs k hkt
     have hgb:=hGb (k + 1) hkt
     have aC0:=qa _ (List.getElem_mem hkt) (G k) (by rw [hG1,List.length_append] at hgb; exact hgb)
     have aC:=fun L=>aC0.at h L
     rw [← hG1] at aC
     have hwk:=wrap_succ hkt
     generalize hae : s.arms[k] = a at *
     simp [hkt,hkt',hae,Ar.enc]
     refine ⟨_,_,aC _,?_⟩
     simp
     exact ⟨k + 1,hkt,by omega,hwk,rfl⟩
    ·have hke : k = s.arms.length:=by omega
     subst hke
     simp
     exact ⟨q + 1,hlt,hmu,hw,by rw [hGn]⟩
   | true =>
    have : hold = s.type.owned:=by rw [hh,h12,hs]; rfl
    subst this
    simp [hlt,hlt',he,stEnc]
    refine awp_draw [(15,7),(15,11)] (by kernel_rfl) (by kernel_rfl) ?_
    simp [h12]
    refine ⟨_,_,standsC s.type _,?_⟩
    rw [hs]
    simp
    refine ⟨_,_,ownedC s.type _,?_⟩
    simp
    refine ⟨_,_,wC _,?_⟩
    simp
    refine ⟨_,_,bC _,?_⟩
    simp
    refine ⟨_,_,eC _,?_⟩
    simp
    refine awp_loop (fun k : Nat=>k ≤ s.arms.length) (fun k=>([.ptr (d + 1) 1 0,.any,.any,.any,.any,.any,.any,.any,.p (.sl 15 (ss.map St.enc)),I ss.length,I q] ++ (List.replicate 29 .any ++ [.p (.sl 3 (s.arms.map Ar.enc)),I s.arms.length,I k,.any,.any,.any,.any,.any,.any,.any,.any,.any]))) (fun k=>[.cells (stU s) 45] :: updL S d (G k)) (fun k=>s.arms.length - k) 0 (Nat.zero_le _) ?_ ?_ ?_
    ·simp
    ·simp [hG0,h12]
    intro k hk1
    by_cases hkt : k < s.arms.length
    ·have hkt' : (k : Int) < (s.arms.length : Int):=by omega
     have hG1:=hGs k hkt
     have hgb:=hGb (k + 1) hkt
     have aC0:=qa _ (List.getElem_mem hkt) (G k) (by rw [hG1,List.length_append] at hgb; exact hgb)
     have aC:=fun L=>aC0.at h L
     rw [← hG1] at aC
     have hwk:=wrap_succ hkt
     generalize hae : s.arms[k] = a at *
     simp [hkt,hkt',hae,Ar.enc]
     refine ⟨_,_,aC _,?_⟩
     simp
     exact ⟨k + 1,hkt,by omega,hwk,rfl⟩
    ·have hke : k = s.arms.length:=by omega
     subst hke
     simp
     exact ⟨q + 1,hlt,hmu,hw,by rw [hGn]⟩
  ·have h12' : (s.op != 12) = true:=by simpa using h12
   have : hold = true:=by rw [hh,h12']; rfl
   subst this
   simp [hlt,hlt',he,stEnc]
   refine awp_draw [(15,7),(15,11)] (by kernel_rfl) (by kernel_rfl) ?_
   simp [h12']
   refine ⟨_,_,wC _,?_⟩
   simp
   refine ⟨_,_,bC _,?_⟩
   simp
   refine ⟨_,_,eC _,?_⟩
   simp
   refine awp_loop (fun k : Nat=>k ≤ s.arms.length) (fun k=>([.ptr (d + 1) 1 0,.any,.any,.any,.any,.any,.any,.any,.p (.sl 15 (ss.map St.enc)),I ss.length,I q] ++ (List.replicate 29 .any ++ [.p (.sl 3 (s.arms.map Ar.enc)),I s.arms.length,I k,.any,.any,.any,.any,.any,.any,.any,.any,.any]))) (fun k=>[.cells (stU s) 45] :: updL S d (G k)) (fun k=>s.arms.length - k) 0 (Nat.zero_le _) ?_ ?_ ?_
   ·simp
   ·simp [hG0]
   intro k hk1
   by_cases hkt : k < s.arms.length
   ·have hkt' : (k : Int) < (s.arms.length : Int):=by omega
    have hG1:=hGs k hkt
    have hgb:=hGb (k + 1) hkt
    have aC0:=qa _ (List.getElem_mem hkt) (G k) (by rw [hG1,List.length_append] at hgb; exact hgb)
    have aC:=fun L=>aC0.at h L
    rw [← hG1] at aC
    have hwk:=wrap_succ hkt
    generalize hae : s.arms[k] = a at *
    simp [hkt,hkt',hae,Ar.enc]
    refine ⟨_,_,aC _,?_⟩
    simp
    exact ⟨k + 1,hkt,by omega,hwk,rfl⟩
   ·have hke : k = s.arms.length:=by omega
    subst hke
    simp
    exact ⟨q + 1,hlt,hmu,hw,by rw [hGn]⟩
 ·have : q = ss.length:=by omega
  subst this
  simp
theorem ssC_all : ∀ ss : List St,SsC ss:=by
 have key : ∀ s : St,SsC s.body ∧ SsC s.els ∧ ∀ a ∈ s.arms,SsC a.body :=
  St.ind fun s ihb ihe iha=>⟨stmtsL _ ihb,stmtsL _ ihe,fun a ha=>stmtsL _ (iha a ha)⟩
 exact fun ss=>stmtsL ss fun s _=>key s
def It.tabsD (p : List It) (n : Nat) (x : It) : List Flt:=(x.tabs p n).getD []
theorem itsTabs_all {p : List It} {n : Nat} : ∀ {l : List It} {fs : List Flt},itsTabs p n l = some fs → fs = l.flatMap (It.tabsD p n) ∧ ∀ x ∈ l,x.tabs p n = some (x.tabsD p n)
 | [],fs,h=>by cases h; exact ⟨rfl,fun x hx=>by cases hx⟩
 | x :: l,fs,h=>by
  unfold itsTabs at h
  cases h1 : x.tabs p n with
  | none=>rw [h1] at h; cases h
  | some a =>
   cases h2 : itsTabs p n l with
   | none=>rw [h1,h2] at h; cases h
   | some b =>
    rw [h1,h2] at h
    cases h
    obtain ⟨e,hall⟩:=itsTabs_all h2
    refine ⟨?_,fun y hy=>?_⟩
    ·rw [List.flatMap_cons,← e]
     simp [It.tabsD,h1]
    ·rcases List.mem_cons.1 hy with rfl | hy
     ·simp [It.tabsD,h1]
     ·exact hall y hy
theorem LkC.zero {F : Nat} {args : List AV} {l l' : List Flt} (hw : LkC F args l l') (a : AObj) (M : List AObj) (S : ASt) : ADet Tryz.prog F (.ptr 0 1 0 :: args) ((a :: lkO l :: ltO l :: M) :: S) .un ((a :: lkO l' :: ltO l' :: M) :: S):=hw _ 0 ⟨rfl,rfl⟩
def fieldT (x : It) (f : Fi) : List Flt:=wrongL (f.type.stands && ((x.kind == 3) || f.type.owned)) 70 x.pos
theorem checkC (p : List It) (n : Nat) (hsm : PrSm p) (fs : List Flt) (h : checkT p n = some fs) (hb : fs.length ≤ 4000000000) (S : ASt) : ADet Tryz.prog 17 [.agg [.p (prog p)]] S (.p (.sl 2 (fs.map fltE))) S:=by
 refine ADet.okA Tryz.call17 0 0 rfl rfl fun hok=>?_
 have hlen:=okl hok
 have wC:=fun S=>wholeProgC p hsm S
 refine ADet.intro mixed Tryz.call17 Tryz.func17 rfl ?_
 simp [Tryz.ntmps17]
 refine ⟨_,_,wC _,?_⟩
 unfold checkT at h
 cases hw : prWhole p with
 | false =>
  rw [hw] at h
  simp at h
  subst h
  simp [fltE]
 | true =>
 rw [hw] at h
 simp only [if_true] at h
 obtain ⟨hfs,hall⟩:=itsTabs_all h
 obtain ⟨F,hF⟩ : ∃ F : Nat → List Flt,F = fun q=>(p.take q).flatMap (It.tabsD p n):=⟨_,rfl⟩
 have hF0 : F 0 = []:=by rw [hF]; simp
 have hFn : F p.length = fs:=by rw [hF,hfs]; simp
 have hFb : ∀ q,(F q).length ≤ 4000000000:=fun q=>by
  rw [hF]
  have:=take_flat_le (It.tabsD p n) p q
  rw [← hfs] at this
  show ((p.take q).flatMap (It.tabsD p n)).length ≤ _
  omega
 have hFs : ∀ q (h : q < p.length),F (q + 1) = F q ++ p[q].tabsD p n:=fun q h=>by
  rw [hF]; simp only [List.take_succ_eq_append_getElem h,List.flatMap_append]; simp
 clear hF hfs h
 rw [← hFn]
 simp [prog]
 refine awp_loopG 48 2 (by decide) [.cells [.p (.sl 16 (p.map It.enc))] 24,.cells [.osl 2 [] 0 2] 105] (fun q : Nat=>q ≤ p.length) (fun q=>([.any,.ptr 0 0 0,.any,.ptr 0 1 0] ++ (List.replicate 12 .any ++ ([.p (.sl 16 (p.map It.enc)),I p.length,I q] ++ List.replicate 62 .any)))) (fun q=>[.cells [.p (.sl 16 (p.map It.enc))] 24,lkO (F q),ltO (F q)] :: S) (fun q=>p.length - q) 0 (Nat.zero_le _) ?_ ?_ ?_ ?_
 ·simp
 ·simp
 ·rw [hF0]; rfl
 intro q hq1
 by_cases hlt : q < p.length
 ·have hlt' : (q : Int) < (p.length : Int):=by omega
  have hF1:=hFs q hlt
  have hb1:=hFb (q + 1)
  have hx:=hall _ (List.getElem_mem hlt)
  have hokx:=it_ok (p:=p) (by simpa [prog] using hok) (List.getElem_mem hlt)
  have hlenf:=okl hokx.1
  have hwq:=wrap_succ hlt
  have hmu : p.length - (q + 1) < p.length - q:=by omega
  generalize he : p[q] = x at *
  obtain ⟨W0,hW0⟩ : ∃ W,W = F q ++ x.fields.flatMap (fieldT x):=⟨_,rfl⟩
  obtain ⟨W1,hW1⟩ : ∃ W,W = W0 ++ wrongL (x.result.stands && x.result.owned) 70 x.pos:=⟨_,rfl⟩
  obtain ⟨W2,hW2⟩ : ∃ W,W = W1 ++ St.tabss x.body:=⟨_,rfl⟩
  obtain ⟨lb,hlb,hW3⟩ : ∃ lb : Bool,(x.kind = 3 ∧ lb = true ∨ x.kind ≠ 3 ∧ ∃ g,foundF p x.name n x.fields [] = some (!lb,g)) ∧ F (q + 1) = W2 ++ wrongL lb 71 x.pos:=by
   unfold It.tabs at hx
   dsimp only at hx
   by_cases h3 : x.kind = 3
   ·rw [if_pos h3] at hx
    refine ⟨true,.inl ⟨h3,rfl⟩,?_⟩
    rw [hF1,← Option.some.inj hx,hW2,hW1,hW0,show wrongL true 71 x.pos = [] from rfl,List.append_nil]
    simp only [List.append_assoc]
    rfl
   ·rw [if_neg h3] at hx
    obtain ⟨⟨b,g⟩,hfo,hx⟩:=Option.map_eq_some_iff.1 hx
    refine ⟨!b,.inr ⟨h3,g,by rw [hfo]; simp⟩,?_⟩
    rw [hF1,← hx,hW2,hW1,hW0]
    simp only [List.append_assoc]
    rfl
  have hb2 : W2.length + 1 ≤ 4294967296:=by rw [hW3,List.length_append] at hb1; omega
  have hb12 : W1.length + (St.tabss x.body).length ≤ 4000000000:=by rw [hW3,hW2,List.length_append,List.length_append] at hb1; omega
  have hb01 : W0.length + 1 ≤ 4294967296:=by rw [hW1,List.length_append] at hb12; omega
  obtain ⟨G,hG⟩ : ∃ G : Nat → List Flt,G = fun k=>F q ++ (x.fields.take k).flatMap (fieldT x):=⟨_,rfl⟩
  have hG0 : G 0 = F q:=by rw [hG]; simp
  have hGn : G x.fields.length = W0:=by rw [hG,hW0]; simp
  have hGs : ∀ k (h : k < x.fields.length),G (k + 1) = G k ++ fieldT x x.fields[k]:=fun k h=>by
   rw [hG]; simp only [List.take_succ_eq_append_getElem h,List.flatMap_append,List.append_assoc]; simp
  have hGb : ∀ k,(G k).length + 1 ≤ 4294967296:=fun k=>by
   have h1:=take_flat_le (fieldT x) x.fields k
   have h2 : (W0).length ≤ 4000000000:=by rw [hW1,List.length_append] at hb12; omega
   rw [hW0,List.length_append] at h2
   rw [hG]
   simp only [List.length_append]
   omega
  have sC:=fun M=>(ssC_all x.body W1 hb12).zero (.cells [.p (.sl 16 (p.map It.enc))] 24) M S
  have lC:=fun M=>(wrongW lb 71 x.pos W2 hb2).zero (.cells [.p (.sl 16 (p.map It.enc))] 24) M S
  have rC:=fun b M=>(wrongW b 70 x.pos W0 hb01).zero (.cells [.p (.sl 16 (p.map It.enc))] 24) M S
  rw [← hW2] at sC
  rw [← hW3] at lC
  clear hG hF1 hFs hx
  simp [hlt,hlt',he,It.enc]
  refine awp_loop (fun k : Nat=>k ≤ x.fields.length) (fun k=>([.any,.ptr 0 0 0,.any,.ptr 0 1 0,.any,.ptr 0 3 0,.any,.any,.any,.any,.any,.any,.any,.any,.any,.any,.p (.sl 16 (p.map It.enc)),I p.length,I q,.any,.any,.any,.any,.p (.sl 4 (x.fields.map Fi.enc)),I x.fields.length,I k] ++ List.replicate 55 .any)) (fun k=>[.cells [.p (.sl 16 (p.map It.enc))] 24,lkO (G k),ltO (G k),.cells (itU x) 42] :: S) (fun k=>x.fields.length - k) 0 (Nat.zero_le _) ?_ ?_ ?_
  ·simp
  ·simp [hG0,ltO,lkO]
  intro k hk1
  by_cases hkt : k < x.fields.length
  ·have hkt' : (k : Int) < (x.fields.length : Int):=by omega
   have hG1:=hGs k hkt
   have hwk:=wrap_succ hkt
   have fC:=fun b M=>(wrongW b 70 x.pos (G k) (hGb k)).zero (.cells [.p (.sl 16 (p.map It.enc))] 24) M S
   generalize hfe : x.fields[k] = f at *
   unfold fieldT at hG1
   simp [hkt,hkt',hfe,Fi.enc]
   refine awp_draw [(15,3),(15,11)] (by kernel_rfl) (by kernel_rfl) ?_
   simp
   refine ⟨_,_,standsC f.type _,?_⟩
   cases hs : f.type.stands with
   | false =>
    rw [hs,Bool.false_and] at hG1
    simp
    refine ⟨_,_,fC false _,?_⟩
    simp
    exact ⟨k + 1,hkt,by omega,hwk,by rw [hG1]; simp [ltO,lkO]⟩
   | true =>
    rw [hs,Bool.true_and] at hG1
    by_cases h3 : x.kind = 3
    ·rw [h3] at hG1
     simp [h3]
     refine ⟨_,_,fC true _,?_⟩
     simp
     exact ⟨k + 1,hkt,by omega,hwk,by rw [hG1]; simp [ltO,lkO,h3]⟩
    ·have h3' : (x.kind == 3) = false:=by simpa using h3
     rw [h3',Bool.false_or] at hG1
     simp [h3']
     refine ⟨_,_,ownedC f.type _,?_⟩
     simp
     refine ⟨_,_,fC _ _,?_⟩
     simp
     exact ⟨k + 1,hkt,by omega,hwk,by rw [hG1]; simp [ltO,lkO]⟩
  ·have hke : k = x.fields.length:=by omega
   subst hke
   have iC : ∀ g,foundF p x.name n x.fields [] = some (!lb,g) → ∀ S,ADet Tryz.prog 54 [.agg [.p (prog p)],itV x] S (B (!lb)) S:=fun g hg S=>itselfC p x n _ g hg S
   have fin : ∀ b,b = (x.result.stands && x.result.owned) → W1 = W0 ++ wrongL b 70 x.pos:=fun b hb=>by rw [hb]; exact hW1
   rw [hGn]
   simp
   refine awp_draw [(10,3),(10,7)] (by kernel_rfl) (by kernel_rfl) ?_
   simp
   refine ⟨_,_,standsC x.result _,?_⟩
   cases hs : x.result.stands with
   | false =>
    have hw1:=fin false (by rw [hs]; rfl)
    have rC:=fun M=>rC false M
    rw [← hw1] at rC
    simp
    refine ⟨_,_,rC _,?_⟩
    simp
    refine ⟨_,_,sC _,?_⟩
    simp
    refine awp_draw [(11,7)] (by kernel_rfl) (by kernel_rfl) ?_
    rcases hlb with ⟨h3,hl⟩ | ⟨h3,g,hg⟩
    ·rw [hl] at lC
     simp [h3]
     refine ⟨_,_,lC _,?_⟩
     simp
     exact ⟨q + 1,hlt,hmu,hwq,by simp [ltO,lkO]⟩
    ·have h3' : (x.kind == 3) = false:=by simpa using h3
     simp [h3']
     refine ⟨_,_,iC g hg _,?_⟩
     simp
     refine ⟨_,_,lC _,?_⟩
     simp
     exact ⟨q + 1,hlt,hmu,hwq,by simp [ltO,lkO]⟩
   | true =>
    have hw1:=fin x.result.owned (by rw [hs]; rfl)
    have rC:=fun M=>rC x.result.owned M
    rw [← hw1] at rC
    simp
    refine ⟨_,_,ownedC x.result _,?_⟩
    simp
    refine ⟨_,_,rC _,?_⟩
    simp
    refine ⟨_,_,sC _,?_⟩
    simp
    refine awp_draw [(11,7)] (by kernel_rfl) (by kernel_rfl) ?_
    rcases hlb with ⟨h3,hl⟩ | ⟨h3,g,hg⟩
    ·rw [hl] at lC
     simp [h3]
     refine ⟨_,_,lC _,?_⟩
     simp
     exact ⟨q + 1,hlt,hmu,hwq,by simp [ltO,lkO]⟩
    ·have h3' : (x.kind == 3) = false:=by simpa using h3
     simp [h3']
     refine ⟨_,_,iC g hg _,?_⟩
     simp
     refine ⟨_,_,lC _,?_⟩
     simp
     exact ⟨q + 1,hlt,hmu,hwq,by simp [ltO,lkO]⟩
 ·have : q = p.length:=by omega
  subst this
  simp [lkO]
end Go.Proofs.YtlclonljdagpkaaGreatDoor
