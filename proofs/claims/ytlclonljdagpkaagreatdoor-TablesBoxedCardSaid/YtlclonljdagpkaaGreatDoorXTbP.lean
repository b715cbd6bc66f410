/- A part of the proof. The statement is proved in the claim's last text. -/
import Derived.Test.YtlclonljdagpkaaGreatDoorXNRb
set_option linter.unusedVariables false
set_option linter.unusedSimpArgs false
set_option maxRecDepth 100000
set_option maxHeartbeats 32000000
namespace Go.Proofs.YtlclonljdagpkaaGreatDoor
open Go.RowKit
def boxFi (k : Int) (f : Fi) : Fi:=if k ≠ 3 ∧ f.type.kind = 4 then ⟨f.name,.mk 5 emS [f.type]⟩ else f
def boxIt (x : It) : It:=⟨x.kind,x.name,x.fields.map (boxFi x.kind),x.result,x.body,x.ret,x.pos⟩
def fresh (p : List It) (g : List ByteArray) : Nat:=p.countP fun x=>!g.any fun y=>sEq x.name y
theorem fresh_le {p : List It} {g : List ByteArray} (s : ByteArray) : fresh p (g ++ [s]) ≤ fresh p g:=by
 unfold fresh
 refine List.countP_mono_left fun x _ h=>?_
 simp only [List.any_append,Bool.not_or,Bool.and_eq_true] at h
 exact h.1
theorem fresh_lt {p : List It} {g : List ByteArray} {s : ByteArray} {z : It} (hz : z ∈ p) (he : sEq z.name s = true) (hg : g.any (fun y=>sEq s y) = false) : fresh p (g ++ [s]) + 1 ≤ fresh p g:=by
 have e : z.name = s:=sEq_iff.1 he
 subst e
 induction p with
 | nil=>cases hz
 | cons a p ih =>
  have hc : ∀ g,fresh (a :: p) g = fresh p g + if (!g.any fun y=>sEq a.name y) = true then 1 else 0:=fun g=>by
   unfold fresh; rw [List.countP_cons]
  rw [hc,hc]
  rcases List.mem_cons.1 hz with rfl | hz
  ·have h1:=fresh_le (p:=p) (g:=g) z.name
   have h2 : (!(g ++ [z.name]).any fun y=>sEq z.name y) = false:=by simp [he]
   have h3 : (!g.any fun y=>sEq z.name y) = true:=by rw [hg]; rfl
   rw [h2,h3]
   simp
   omega
  ·have:=ih hz
   by_cases h : (!g.any fun y=>sEq a.name y) = true
   ·rw [if_pos h]; split <;> omega
   ·have h' : ¬ (!(g ++ [z.name]).any fun y=>sEq a.name y) = true:=by
     simp only [List.any_append,Bool.not_or,Bool.and_eq_true]
     exact fun k=>h k.1
    rw [if_neg h,if_neg h']; omega
theorem firstIt_mem {p : List It} {s : ByteArray} {z : It} (h : firstIt p s = some z) : z ∈ p ∧ sEq z.name s = true:=by
 unfold firstIt at h
 have h1:=List.mem_of_find?_eq_some h
 have h2:=List.find?_some h
 simp only [Bool.and_eq_true] at h2
 exact ⟨h1,h2.2⟩
theorem foundF_tot (p : List It) (nm : ByteArray) (B : Nat) (hB : ∀ x ∈ p,x.fields.length ≤ B) : ∀ (n : Nat) (fs : List Fi) (gone : List ByteArray),fs.length + (B + 1) * fresh p gone ≤ n → ∃ r,foundF p nm n fs gone = some r ∧ fresh p r.2 ≤ fresh p gone
 | _,[],gone,_=>⟨(false,gone),by unfold foundF; rfl,Nat.le_refl _⟩
 | 0,f :: fs,gone,h=>by simp at h
 | n + 1,f :: fs,gone,h=>by
  simp only [List.length_cons] at h
  have hn : fs.length + (B + 1) * fresh p gone ≤ n:=by omega
  unfold foundF
  by_cases h4 : f.type.kind ≠ 4
  ·rw [if_pos h4]; exact foundF_tot p nm B hB n fs gone hn
  ·rw [if_neg h4]
   by_cases hs : sEq f.type.name nm = true
   ·rw [if_pos hs]; exact ⟨_,rfl,Nat.le_refl _⟩
   ·rw [if_neg hs]
    by_cases ha : (gone.any fun g=>sEq f.type.name g) = true
    ·rw [if_pos ha]; exact foundF_tot p nm B hB n fs gone hn
    ·rw [if_neg ha]
     have hle:=fresh_le (p:=p) (g:=gone) f.type.name
     cases hz : firstIt p f.type.name with
     | none =>
      obtain ⟨r,h1,h2⟩:=foundF_tot p nm B hB n fs (gone ++ [f.type.name]) (by have:=Nat.mul_le_mul_left (B + 1) hle; omega)
      exact ⟨r,h1,by omega⟩
     | some z =>
      obtain ⟨hm,he⟩:=firstIt_mem hz
      have hlt:=fresh_lt (g:=gone) hm he (by simpa using ha)
      have hb:=hB z hm
      have hmul:=Nat.mul_le_mul_left (B + 1) hlt
      rw [Nat.mul_add,Nat.mul_one] at hmul
      obtain ⟨r,h1,h2⟩:=foundF_tot p nm B hB n z.fields (gone ++ [f.type.name]) (by omega)
      obtain ⟨b,g⟩:=r
      simp only [h1]
      cases b with
      | true=>exact ⟨_,rfl,by simp only at h2 ⊢; omega⟩
      | false =>
       simp only at h2 ⊢
       obtain ⟨r,h3,h4⟩:=foundF_tot p nm B hB n fs g (by have:=Nat.mul_le_mul_left (B + 1) (show fresh p g ≤ fresh p gone by omega); omega)
       exact ⟨r,h3,by omega⟩
theorem foundF_none (p : List It) (nm : ByteArray) : ∀ (n : Nat) (fs : List Fi) (gone : List ByteArray),fs.length ≤ n → (∀ f ∈ fs,f.type.kind ≠ 4) → foundF p nm n fs gone = some (false,gone)
 | _,[],gone,_,_=>by unfold foundF; rfl
 | 0,f :: fs,gone,h,_=>by simp at h
 | n + 1,f :: fs,gone,h,hk=>by
  unfold foundF
  rw [if_pos (hk f (by simp))]
  exact foundF_none p nm n fs gone (by simpa using h) fun g hg=>hk g (List.mem_cons_of_mem _ hg)
theorem fieldB_named {k d : Int} {f : Fi} (h : fieldB k d f = true) (h4 : f.type.kind = 4) : 0 < d - 1 ∧ typeB f.type.name = true ∧ f.type.args = []:=by
 unfold fieldB at h
 simp only [Bool.and_eq_true,Bool.or_eq_true] at h
 rcases h.2 with ⟨_,h⟩ | h
 ·unfold zeroTyB at h
  simp [h4] at h
 ·rw [whole_eq] at h
  simp [h4,plainKind] at h
  exact ⟨by omega,h.2.1,h.2.2⟩
theorem boxFi_part {k d : Int} {f : Fi} (h : fieldB k d f = true) : ((boxFi k f).type.stands && ((k == 3) || (boxFi k f).type.owned)) = (f.type.stands && ((k == 3) || f.type.owned)):=by
 unfold boxFi
 split
 ·rename_i hc
  obtain ⟨_,_,ha⟩:=fieldB_named h hc.2
  have e1 : f.type.stands = true:=by rw [stands_eq,ha]; rfl
  have e2 : f.type.owned = true:=by rw [owned_eq,ha,hc.2]; rfl
  have e3 : (Ty.mk 5 emS [f.type]).stands = true:=by
   rw [stands_eq]
   show (([f.type] : List Ty).all fun x=>x.stands && partOk 5 x) = true
   simp [e1,partOk,e2]
  have e4 : (Ty.mk 5 emS [f.type]).owned = true:=by
   rw [owned_eq]
   show (_ && ([f.type] : List Ty).all Ty.owned) = true
   simp [e2,Ty.kind]
  simp only [e1,e2,e3,e4]
 ·rfl
theorem boxFi_whole {k d : Int} (hd : 3 < d) {f : Fi} (h : fieldB k d f = true) : fieldB k d (boxFi k f) = true:=by
 unfold boxFi
 split
 ·rename_i hc
  obtain ⟨_,hn,ha⟩:=fieldB_named h hc.2
  unfold fieldB at h ⊢
  simp only [Bool.and_eq_true,Bool.or_eq_true] at h ⊢
  refine ⟨h.1,.inr ?_⟩
  rw [whole_eq]
  have e : f.type.whole (d - 1 - 1) = true:=by
   rw [whole_eq]
   simp [hc.2,plainKind,hn,ha]
   omega
  simp [Ty.kind,Ty.name,Ty.args,plainKind,e]
  omega
 ·exact h
theorem allUp_map {α : Type} {p : α → Bool} {g : α → α} {l : List α} {m : Int} (hg : ∀ x,p x = true → p (g x) = true) (h : allUp p l m = true) : allUp p (l.map g) m = true:=by
 unfold allUp at h ⊢
 simp only [Bool.and_eq_true,decide_eq_true_eq] at h
 rw [List.take_of_length_le (by omega)] at h
 rw [List.take_of_length_le (by rw [List.length_map]; omega)]
 simp only [Bool.and_eq_true,decide_eq_true_eq,List.length_map]
 refine ⟨h.1,List.all_eq_true.2 fun y hy=>?_⟩
 obtain ⟨x,hx,rfl⟩:=List.mem_map.1 hy
 exact hg x (List.all_eq_true.1 h.2 x hx)
theorem allUp_mem {α : Type} {p : α → Bool} {l : List α} {m : Int} (h : allUp p l m = true) : (l.length : Int) ≤ m ∧ ∀ x ∈ l,p x = true:=by
 unfold allUp at h
 simp only [Bool.and_eq_true,decide_eq_true_eq] at h
 rw [List.take_of_length_le (by omega)] at h
 exact ⟨h.1,fun x hx=>List.all_eq_true.1 h.2 x hx⟩
theorem it_fields {x : It} {d : Int} (h : x.whole d = true) : allUp (fieldB x.kind d) x.fields 6 = true:=by
 unfold It.whole at h
 split at h
 ·simp only [Bool.and_eq_true] at h; exact h.2
 ·split at h
  ·rename_i hk
   simp only [Bool.and_eq_true] at h
   rw [hk]
   exact h.2.1
  ·cases h
theorem boxIt_whole {x : It} {d : Int} (hd : 3 < d) (h : x.whole d = true) : (boxIt x).whole d = true:=by
 have hf:=allUp_map (fun f hf=>boxFi_whole hd hf) (it_fields h)
 unfold It.whole at h ⊢
 show (if x.kind = 1 ∨ x.kind = 2 then (zeroTyB x.result && (decide (x.body.length = 0) && (zeroExB x.ret && typeB x.name))) && allUp (fieldB x.kind d) (x.fields.map (boxFi x.kind)) 6
  else if x.kind = 3 then nameB x.name && (allUp (fieldB 3 d) (x.fields.map (boxFi x.kind)) 6 && (x.result.whole (d - 1) && (!lentOp x.ret.op && (x.ret.whole (d - 1) && x.body.all fun s=>s.whole (d - 1))))) else false) = true
 split at h
 ·rename_i hk
  rw [if_pos hk]
  simp only [Bool.and_eq_true] at h ⊢
  exact ⟨h.1,hf⟩
 ·rename_i hk
  rw [if_neg hk]
  split at h
  ·rename_i h3
   rw [if_pos h3]
   simp only [Bool.and_eq_true] at h ⊢
   rw [h3] at hf ⊢
   exact ⟨h.1,hf,h.2.2⟩
  ·cases h
theorem box_whole {p : List It} (h : prWhole p = true) : prWhole (p.map boxIt) = true:=allUp_map (fun x hx=>boxIt_whole (by omega) hx) h
def not71 (f : Flt) : Bool:=f.1 != 71
theorem wrongL_70 (b : Bool) (a : Int) : (wrongL b 70 a).filter not71 = wrongL b 70 a:=by cases b <;> rfl
theorem wrongL_71 (b : Bool) (a : Int) : (wrongL b 71 a).filter not71 = []:=by cases b <;> rfl
theorem flat_70 {α : Type} (f : α → List Flt) (l : List α) (h : ∀ x ∈ l,(f x).filter not71 = f x) : (l.flatMap f).filter not71 = l.flatMap f:=by
 induction l with
 | nil=>rfl
 | cons x l ih=>rw [List.flatMap_cons,List.filter_append,h x (by simp),ih fun y hy=>h y (List.mem_cons_of_mem _ hy)]
theorem tabs_70 : ∀ s : St,s.tabs.filter not71 = s.tabs:=by
 refine St.ind fun s i1 i2 i3=>?_
 rw [stTabs,List.filter_append,wrongL_70,List.filter_append,tabss_flat,flat_70 _ _ i1,List.filter_append,tabss_flat,flat_70 _ _ i2,flat_70 _ _ fun a ha=>by rw [tabss_flat]; exact flat_70 _ _ (i3 a ha)]
def tab70 (x : It) : List Flt:=x.fields.flatMap (fun f=>wrongL (f.type.stands && ((x.kind == 3) || f.type.owned)) 70 x.pos) ++ (wrongL (x.result.stands && x.result.owned) 70 x.pos ++ St.tabss x.body)
theorem tab70_70 (x : It) : (tab70 x).filter not71 = tab70 x:=by
 unfold tab70
 rw [List.filter_append,flat_70 _ _ fun f _=>wrongL_70 _ _,List.filter_append,wrongL_70,tabss_flat,flat_70 _ _ fun s _=>tabs_70 s]
theorem tab70_box {x : It} {d : Int} (h : x.whole d = true) : tab70 (boxIt x) = tab70 x:=by
 unfold tab70
 have hf:=(allUp_mem (it_fields h)).2
 have e : (boxIt x).fields.flatMap (fun f=>wrongL (f.type.stands && (((boxIt x).kind == 3) || f.type.owned)) 70 (boxIt x).pos) = x.fields.flatMap (fun f=>wrongL (f.type.stands && ((x.kind == 3) || f.type.owned)) 70 x.pos):=by
  show (x.fields.map (boxFi x.kind)).flatMap (fun f=>wrongL (f.type.stands && ((x.kind == 3) || f.type.owned)) 70 x.pos) = _
  rw [List.flatMap_map]
  generalize x.fields = fs at hf
  induction fs with
  | nil=>rfl
  | cons f fs ih =>
   rw [List.flatMap_cons,List.flatMap_cons,boxFi_part (hf f (by simp)),ih fun g hg=>hf g (List.mem_cons_of_mem _ hg)]
 rw [e]
 rfl
theorem it_tabs {p : List It} {x : It} {n : Nat} {r : Bool × List ByteArray} (h : foundF p x.name n x.fields [] = some r) : x.tabs p n = some (tab70 x ++ if x.kind = 3 then [] else wrongL (!r.1) 71 x.pos):=by
 unfold It.tabs tab70
 simp only
 split
 ·simp
 ·rw [h]; rfl
theorem boxed_pure (x : It) (h3 : x.kind ≠ 3) : ∀ f ∈ (boxIt x).fields,f.type.kind ≠ 4:=fun f hf=>by
 obtain ⟨g,_,rfl⟩:=List.mem_map.1 (show f ∈ x.fields.map (boxFi x.kind) from hf)
 unfold boxFi
 split
 ·show (5 : Int) ≠ 4; omega
 ·rename_i hc
  exact fun h=>hc ⟨h3,h⟩
theorem its_box (p : List It) (n : Nat) (q : List It) (hn : ∀ x ∈ p,∃ r,foundF p x.name n x.fields [] = some r) (hl : ∀ x ∈ p,x.fields.length ≤ n) (hw : ∀ x ∈ p,x.whole 39 = true) : ∀ l,(∀ x ∈ l,x ∈ p) → ∃ a,itsTabs p n l = some a ∧ itsTabs q n (l.map boxIt) = some (a.filter not71)
 | [],_=>⟨[],rfl,rfl⟩
 | x :: l,h=>by
  have hx:=h x (by simp)
  obtain ⟨a,h1,h2⟩:=its_box p n q hn hl hw l fun y hy=>h y (List.mem_cons_of_mem _ hy)
  obtain ⟨r,hr⟩:=hn x hx
  have e1:=it_tabs hr
  have e2 : (boxIt x).tabs q n = some (tab70 x):=by
   by_cases h3 : x.kind = 3
   ·have h3' : (boxIt x).kind = 3:=h3
    have : (boxIt x).tabs q n = some (tab70 (boxIt x)):=by unfold It.tabs tab70; simp only; rw [if_pos h3']
    rw [this,tab70_box (hw x hx)]
   ·have hf:=foundF_none q (boxIt x).name n (boxIt x).fields [] (by show (x.fields.map _).length ≤ n; rw [List.length_map]; exact hl x hx) (boxed_pure x h3)
    rw [it_tabs hf,tab70_box (hw x hx),if_neg (show ¬ (boxIt x).kind = 3 from h3)]
    simp [wrongL]
  refine ⟨(tab70 x ++ if x.kind = 3 then [] else wrongL (!r.1) 71 x.pos) ++ a,?_,?_⟩
  ·unfold itsTabs; rw [e1,h1]
  ·rw [List.map_cons]
   unfold itsTabs
   rw [e2,h2,List.filter_append,List.filter_append,tab70_70]
   have : List.filter not71 (if x.kind = 3 then [] else wrongL (!r.1) 71 x.pos) = []:=by split; rfl; exact wrongL_71 _ _
   rw [this,List.append_nil]
theorem boxed_law (p : List It) (hp : PrSm p) (hw : prWhole p = true) : ∃ n a,checkT p n = some a ∧ checkT (p.map boxIt) n = some (a.filter not71):=by
 have hB : ∀ x ∈ p,x.fields.length ≤ 20000:=fun x hx=>(hp.2 x hx).2.1.1
 refine ⟨20000 + (20000 + 1) * p.length,?_⟩
 have hfr : fresh p [] ≤ p.length:=List.countP_le_length
 have hn : ∀ x ∈ p,∃ r,foundF p x.name (20000 + (20000 + 1) * p.length) x.fields [] = some r:=fun x hx=>by
  obtain ⟨r,h,_⟩:=foundF_tot p x.name 20000 hB (20000 + (20000 + 1) * p.length) x.fields [] (by have:=hB x hx; have:=Nat.mul_le_mul_left (20000 + 1) hfr; omega)
  exact ⟨r,h⟩
 obtain ⟨a,h1,h2⟩:=its_box p _ (p.map boxIt) hn (fun x hx=>by have:=hB x hx; omega) (allUp_mem hw).2 p fun x hx=>hx
 refine ⟨a,?_,?_⟩
 ·unfold checkT; rw [if_pos hw,h1]
 ·unfold checkT; rw [if_pos (box_whole hw),h2]
end Go.Proofs.YtlclonljdagpkaaGreatDoor
