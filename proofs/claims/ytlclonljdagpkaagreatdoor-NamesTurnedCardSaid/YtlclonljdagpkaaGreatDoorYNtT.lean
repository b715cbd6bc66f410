/- A part of the proof. The statement is proved in the claim's last text. -/
import Derived.Test.YtlclonljdagpkaaGreatDoorYNQl
set_option linter.unusedVariables false
set_option linter.unusedSimpArgs false
set_option maxRecDepth 100000
set_option maxHeartbeats 32000000
namespace Go.Proofs.YtlclonljdagpkaaGreatDoor
open Go.RowKit
def Nf.pre (l : List Flt) (σ : Nf) : Nf:=⟨σ.made,σ.count,σ.opn,l ++ σ.fl⟩
section
variable (l0 : List Flt) (p : List It)
theorem mk1_pre (s : ByteArray) (pos : Int) (σ : Nf) : (σ.pre l0).mk1 s pos = (σ.mk1 s pos).pre l0:=by
 unfold Nf.mk1 Nf.pre
 simp only [List.append_assoc]
theorem mkS_pre (pos : Int) : ∀ (l : List ByteArray) (σ : Nf),Nf.mkS l pos (σ.pre l0) = ((Nf.mkS l pos σ).1.pre l0,(Nf.mkS l pos σ).2)
 | [],σ=>rfl
 | s :: l,σ=>by
  rw [Nf.mkS,mk1_pre,mkS_pre pos l,Nf.mkS]
  rfl
theorem undo_pre : ∀ (l : List Fg) (σ : Nf),Nf.undo l (σ.pre l0) = (Nf.undo l σ).pre l0
 | [],σ=>rfl
 | h :: l,σ=>by rw [Nf.undo,undo_pre l,Nf.undo]; rfl
theorem add_pre (σ : Nf) (l : List Flt) : (σ.pre l0).add l = (σ.add l).pre l0:=by
 unfold Nf.add Nf.pre
 simp only [List.append_assoc]
def StP (s : St) : Prop:=∀ σ : Nf,s.nm p (σ.pre l0) = ((s.nm p σ).1.pre l0,(s.nm p σ).2)
theorem stsNm_pre : ∀ (l : List St),(∀ s ∈ l,StP l0 p s) → ∀ σ : Nf,St.nms p l (σ.pre l0) = ((St.nms p l σ).1.pre l0,(St.nms p l σ).2)
 | [],h,σ=>by simp only [St.nms]
 | s :: l,h,σ=>by
  simp only [St.nms]
  rw [h s (by simp) σ,stsNm_pre l (fun y hy=>h y (List.mem_cons_of_mem _ hy))]
theorem blockN_pre {l : List St} (h : ∀ s ∈ l,StP l0 p s) (pos : Int) (names : List ByteArray) (σ : Nf) : blockN p l pos names (σ.pre l0) = (blockN p l pos names σ).pre l0:=by
 unfold blockN
 rw [mkS_pre]
 simp only
 rw [stsNm_pre l0 p l h]
 simp only
 rw [undo_pre,undo_pre]
theorem spawnN_pre {l : List St} (h : ∀ s ∈ l,StP l0 p s) (pos : Int) (names : List ByteArray) (fl : List Flt) : spawnN p l pos names (l0 ++ fl) = (spawnN p l pos names fl).pre l0:=by
 unfold spawnN
 have e : (⟨[],0,0,l0 ++ fl⟩ : Nf) = Nf.pre l0 ⟨[],0,0,fl⟩:=rfl
 rw [e,mkS_pre]
 simp only
 rw [stsNm_pre l0 p l h]
 simp only
 rw [undo_pre]
theorem arms_pre (pos : Int) : ∀ (l : List Ar),(∀ a ∈ l,∀ s ∈ a.body,StP l0 p s) → ∀ σ : Nf,l.foldl (fun σ a=>a.nm p pos σ) (σ.pre l0) = (l.foldl (fun σ a=>a.nm p pos σ) σ).pre l0
 | [],h,σ=>rfl
 | a :: l,h,σ=>by
  simp only [List.foldl_cons]
  have e : a.nm p pos (σ.pre l0) = (a.nm p pos σ).pre l0:=by
   unfold Ar.nm
   exact blockN_pre l0 p (h a (by simp)) pos (oneN a.name) σ
  rw [e]
  exact arms_pre pos l (fun b hb=>h b (List.mem_cons_of_mem _ hb)) _
theorem stNm_pre : ∀ s : St,StP l0 p s:=by
 refine St.ind fun s i1 i2 i3 σ=>?_
 have hmade : (σ.pre l0).made = σ.made:=rfl
 have hopn : (σ.pre l0).opn = σ.opn:=rfl
 have hcnt : (σ.pre l0).count = σ.count:=rfl
 have hfl : (σ.pre l0).fl = l0 ++ σ.fl:=rfl
 obtain ⟨op,name,second,names,ty,int,pl,es,b,el,ar,pos⟩:=s
 rw [stNmk p,stNmk p]
 simp only [St.op,St.name,St.second,St.names,St.type,St.int,St.place,St.exprs,St.body,St.els,St.arms,St.pos] at *
 simp only [hmade,hopn,hcnt,hfl,add_pre,List.append_assoc]
 by_cases o1 : op = 1
 ·simp only [ite_y o1,mkS_pre]
 simp only [ite_n o1]
 by_cases o2 : op = 2
 ·simp only [ite_y o2,mkS_pre]
 simp only [ite_n o2]
 by_cases o3 : op = 3
 ·simp only [ite_y o3]
 simp only [ite_n o3]
 by_cases o5 : op = 5
 ·simp only [ite_y o5]
 simp only [ite_n o5]
 by_cases o12 : op = 12
 ·simp only [ite_y o12,mkS_pre]
 simp only [ite_n o12]
 by_cases o8 : op = 8
 ·simp only [ite_y o8,arms_pre l0 p pos ar i3]
 simp only [ite_n o8]
 by_cases o10 : op = 10
 ·simp only [ite_y o10,spawnN_pre l0 p i1]
  simp only [Nf.pre,List.append_assoc]
  rfl
 simp only [ite_n o10]
 by_cases o9 : op = 9
 ·have e : (⟨σ.made,σ.count,σ.opn + 1,l0 ++ (σ.fl ++ es.flatMap (Ex.nm p σ.made))⟩ : Nf) = Nf.pre l0 ⟨σ.made,σ.count,σ.opn + 1,σ.fl ++ es.flatMap (Ex.nm p σ.made)⟩:=rfl
  simp only [ite_y o9,e,blockN_pre l0 p i1]
  rfl
 simp only [ite_n o9]
 by_cases o11 : op = 11
 ·simp only [ite_y o11,blockN_pre l0 p i1]
 simp only [ite_n o11,blockN_pre l0 p i1,blockN_pre l0 p i2]
theorem bodyN_pre (x : It) (fl : List Flt) : bodyN p x (l0 ++ fl) = (bodyN p x fl).pre l0:=by
 unfold bodyN
 have e : (⟨(x.fields.map Fi.name).foldl (fun m s=>mPut m s true) [],x.fields.length,0,l0 ++ fl⟩ : Nf) = Nf.pre l0 ⟨(x.fields.map Fi.name).foldl (fun m s=>mPut m s true) [],x.fields.length,0,fl⟩:=rfl
 rw [e]
 simp only
 rw [stsNm_pre l0 p x.body (fun s _=>stNm_pre l0 p s)]
 simp only
 rw [← undo_pre,← add_pre]
 rfl
theorem itemN_pre (q : Nat) (x : It) (fl : List Flt) : itemN p q x (l0 ++ fl) = l0 ++ itemN p q x fl:=by
 unfold itemN
 simp only [List.append_assoc]
 by_cases h3 : x.kind = 3
 ·rw [if_pos h3,if_pos h3,bodyN_pre]
  simp only [Nf.pre,List.append_assoc]
  rfl
 ·rw [if_neg h3,if_neg h3]
end
end Go.Proofs.YtlclonljdagpkaaGreatDoor
namespace Go.Proofs.YtlclonljdagpkaaGreatDoor
open Go.RowKit
theorem wrongL_nil {b : Bool} {e a : Int} (h : wrongL b e a = []) : b = true:=by
 cases b with
 | true=>rfl
 | false=>cases h
theorem wrongL_true (e a : Int) : wrongL true e a = []:=rfl
structure MonoL (p p' : List It) : Prop where
 fn : ∀ s x,fnIt p s = some x → fnIt p' s = some x
 it : ∀ s x,firstIt p s = some x → firstIt p' s = some x
structure NfR (σ τ : Nf) : Prop where
 made : σ.made = τ.made
 count : σ.count = τ.count
 opn : σ.opn = τ.opn
 fl : σ.fl = [] → τ.fl = []
theorem NfR.add {σ τ : Nf} (h : NfR σ τ) {l l' : List Flt} (hl : l = [] → l' = []) : NfR (σ.add l) (τ.add l') :=
 ⟨h.made,h.count,h.opn,fun e=>by
  obtain ⟨e1,e2⟩:=List.append_eq_nil_iff.1 (show σ.fl ++ l = [] from e)
  show τ.fl ++ l' = []
  rw [h.fl e1,hl e2]; rfl⟩
theorem wrongL_mono {b b' : Bool} {e a : Int} (h : b = true → b' = true) (h0 : wrongL b e a = []) : wrongL b' e a = []:=by rw [h (wrongL_nil h0)]; rfl
theorem NfR.mk1 {σ τ : Nf} (h : NfR σ τ) (s : ByteArray) (pos : Int) : NfR (σ.mk1 s pos) (τ.mk1 s pos):=by
 unfold Nf.mk1
 refine ⟨by simp only [h.made],by simp only [h.count],h.opn,fun e=>?_⟩
 simp only at e ⊢
 obtain ⟨e1,e2⟩:=List.append_eq_nil_iff.1 e
 rw [h.fl e1,← h.made,e2]; rfl
theorem NfR.mkS (pos : Int) : ∀ (l : List ByteArray) {σ τ : Nf},NfR σ τ → NfR (Nf.mkS l pos σ).1 (Nf.mkS l pos τ).1 ∧ (Nf.mkS l pos σ).2 = (Nf.mkS l pos τ).2
 | [],σ,τ,h=>⟨h,rfl⟩
 | s :: l,σ,τ,h=>by
  obtain ⟨h1,h2⟩:=NfR.mkS pos l (h.mk1 s pos)
  exact ⟨h1,by simp only [Nf.mkS,h2,h.made]⟩
theorem NfR.undo : ∀ (l : List Fg) {σ τ : Nf},NfR σ τ → NfR (Nf.undo l σ) (Nf.undo l τ)
 | [],σ,τ,h=>h
 | g :: l,σ,τ,h=>by
  have h1:=NfR.undo l h
  exact ⟨by simp only [Nf.undo,Nf.put,h1.made],h1.count,h1.opn,h1.fl⟩
section
variable {p p' : List It} (h : MonoL p p')
include h
theorem MonoL.itK (k : Int) (s : ByteArray) (x : It) (e : itemK p k s = some x) : itemK p' k s = some x:=by
 unfold itemK at e ⊢
 obtain ⟨y,h1,h2⟩:=Option.bind_eq_some_iff.1 e
 rw [h.it s y h1]
 exact h2
theorem namedN_mo (m : List Fg) (op : Int) (nm sc : ByteArray) (pl : Pl) (n : Nat) (e : namedN p m op nm sc pl n = true) : namedN p' m op nm sc pl n = true:=by
 unfold namedN at e ⊢
 split
 ·rename_i h1
  rw [if_pos h1] at e
  cases hx : fnIt p nm with
  | none=>rw [hx] at e; cases e
  | some x=>rw [hx] at e; rw [h.fn nm x hx]; exact e
 ·rename_i h1
  rw [if_neg h1] at e
  split
  ·rename_i h2
   rw [if_pos h2] at e
   cases hx : firstIt p nm with
   | none=>rw [hx] at e; cases e
   | some x=>rw [hx] at e; rw [h.it nm x hx]; exact e
  ·rename_i h2
   rw [if_neg h2] at e
   split
   ·rename_i h3
    rw [if_pos h3] at e
    cases hx : firstIt p nm with
    | none=>rw [hx] at e; cases e
    | some x=>rw [hx] at e; rw [h.it nm x hx]; exact e
   ·rename_i h3
    rw [if_neg h3] at e
    exact e
theorem takeB_mo (s : ByteArray) (n : Nat) (e : takeB p s n = true) : takeB p' s n = true:=by
 unfold takeB at e ⊢
 cases hx : itemK p 1 s with
 | none=>rw [hx] at e; cases e
 | some x=>rw [hx] at e; rw [h.itK 1 s x hx]; exact e
theorem matchN_mo (s : ByteArray) (l : List Fg) (e : matchN p s l = true) : matchN p' s l = true:=by
 unfold matchN at e ⊢
 cases hx : itemK p 2 s with
 | none=>rw [hx] at e; cases e
 | some x=>rw [hx] at e; rw [h.itK 2 s x hx]; exact e
omit h in
theorem exsNm_moO (m : List Fg) (l : List Ex) (hl : ∀ x ∈ l,x.nm p m = [] → x.nm p' m = []) (e : l.flatMap (Ex.nm p m) = []) : l.flatMap (Ex.nm p' m) = []:=by
 rw [List.flatMap_eq_nil_iff] at e ⊢
 exact fun x hx=>hl x hx (e x hx)
theorem exNm_mo (m : List Fg) : ∀ e : Ex,e.nm p m = [] → e.nm p' m = []:=by
 refine Ex.ind fun e ih he=>?_
 rw [exNm] at he ⊢
 obtain ⟨e1,e2⟩:=List.append_eq_nil_iff.1 he
 rw [wrongL_mono (namedN_mo h m e.op e.name e.second e.place e.args.length) e1,exsNm_moO m e.args ih e2]; rfl
theorem exsNm_mo (m : List Fg) (l : List Ex) (e : l.flatMap (Ex.nm p m) = []) : l.flatMap (Ex.nm p' m) = []:=exsNm_moO m l (fun x _=>exNm_mo h m x) e
theorem tyNm_mo (pos : Int) : ∀ t : Ty,t.nm p pos = [] → t.nm p' pos = []:=by
 refine Ty.ind fun t ih he=>?_
 rw [tyNm] at he ⊢
 obtain ⟨e1,e2⟩:=List.append_eq_nil_iff.1 he
 have a2 : t.args.flatMap (Ty.nm p' pos) = []:=by
  rw [List.flatMap_eq_nil_iff] at e2 ⊢
  exact fun x hx=>ih x hx (e2 x hx)
 rw [a2,List.append_nil]
 split
 ·rename_i h4
  rw [if_pos h4] at e1
  refine wrongL_mono (fun hs=>?_) e1
  obtain ⟨x,hx⟩:=Option.isSome_iff_exists.1 hs
  rw [h.it _ x hx]; rfl
 ·rfl
end
section
variable (p p' : List It)
def StMo (s : St) : Prop:=∀ σ τ : Nf,NfR σ τ → NfR (s.nm p σ).1 (s.nm p' τ).1 ∧ (s.nm p σ).2 = (s.nm p' τ).2
theorem stsNm_mo : ∀ (l : List St),(∀ s ∈ l,StMo p p' s) → ∀ σ τ : Nf,NfR σ τ → NfR (St.nms p l σ).1 (St.nms p' l τ).1 ∧ (St.nms p l σ).2 = (St.nms p' l τ).2
 | [],h,σ,τ,k=>by simp only [St.nms]; exact ⟨k,trivial⟩
 | s :: l,h,σ,τ,k=>by
  simp only [St.nms]
  obtain ⟨a1,a2⟩:=h s (by simp) σ τ k
  obtain ⟨b1,b2⟩:=stsNm_mo l (fun y hy=>h y (List.mem_cons_of_mem _ hy)) _ _ a1
  exact ⟨b1,by rw [a2,b2]⟩
theorem blockN_mo {l : List St} (h : ∀ s ∈ l,StMo p p' s) (pos : Int) (names : List ByteArray) {σ τ : Nf} (k : NfR σ τ) : NfR (blockN p l pos names σ) (blockN p' l pos names τ):=by
 unfold blockN
 obtain ⟨a1,a2⟩:=NfR.mkS pos names k
 obtain ⟨b1,b2⟩:=stsNm_mo p p' l h _ _ a1
 rw [a2,b2]
 exact NfR.undo _ (NfR.undo _ b1)
theorem spawnN_mo {l : List St} (h : ∀ s ∈ l,StMo p p' s) (pos : Int) (names : List ByteArray) {fl fl' : List Flt} (k : fl = [] → fl' = []) : NfR (spawnN p l pos names fl) (spawnN p' l pos names fl'):=by
 unfold spawnN
 obtain ⟨a1,a2⟩:=NfR.mkS pos names (σ:=⟨[],0,0,fl⟩) (τ:=⟨[],0,0,fl'⟩) ⟨rfl,rfl,rfl,k⟩
 obtain ⟨b1,b2⟩:=stsNm_mo p p' l h _ _ a1
 rw [b2]
 exact NfR.undo _ b1
theorem arms_mo (pos : Int) : ∀ (l : List Ar),(∀ a ∈ l,∀ s ∈ a.body,StMo p p' s) → ∀ σ τ : Nf,NfR σ τ → NfR (l.foldl (fun σ a=>a.nm p pos σ) σ) (l.foldl (fun σ a=>a.nm p' pos σ) τ)
 | [],h,σ,τ,k=>k
 | a :: l,h,σ,τ,k=>by
  simp only [List.foldl_cons]
  exact arms_mo pos l (fun b hb=>h b (List.mem_cons_of_mem _ hb)) _ _ (blockN_mo p p' (h a (by simp)) pos (oneN a.name) k)
end
theorem stNm_mo {p p' : List It} (h : MonoL p p') : ∀ s : St,StMo p p' s:=by
 refine St.ind fun s i1 i2 i3 σ τ k=>?_
 obtain ⟨op,name,second,names,ty,int,pl,es,b,el,ar,pos⟩:=s
 simp only [St.op,St.name,St.second,St.names,St.type,St.int,St.place,St.exprs,St.body,St.els,St.arms,St.pos] at *
 rw [stNmk p,stNmk p']
 have kE : NfR (σ.add (es.flatMap (Ex.nm p σ.made))) (τ.add (es.flatMap (Ex.nm p' τ.made))):=k.add (by rw [← k.made]; exact exsNm_mo h σ.made es)
 have hm:=k.made
 by_cases o1 : op = 1
 ·simp only [ite_y o1]; exact NfR.mkS pos _ kE
 simp only [ite_n o1]
 by_cases o2 : op = 2
 ·simp only [ite_y o2]; exact NfR.mkS pos _ (kE.add (wrongL_mono (takeB_mo h _ _)))
 simp only [ite_n o2]
 by_cases o3 : op = 3
 ·simp only [ite_y o3]; exact ⟨kE.add (by rw [hm]; exact fun e=>e),trivial⟩
 simp only [ite_n o3]
 by_cases o5 : op = 5
 ·simp only [ite_y o5]; exact ⟨kE.add (by rw [hm]; exact fun e=>e),trivial⟩
 simp only [ite_n o5]
 by_cases o12 : op = 12
 ·simp only [ite_y o12]; exact NfR.mkS pos _ (kE.add (tyNm_mo h pos ty))
 simp only [ite_n o12]
 by_cases o8 : op = 8
 ·simp only [ite_y o8]
  refine ⟨arms_mo p p' pos ar i3 _ _ (kE.add (wrongL_mono fun e=>?_)),trivial⟩
  rw [Bool.and_eq_true] at e ⊢
  exact ⟨by rw [← hm]; exact e.1,matchN_mo h _ _ e.2⟩
 simp only [ite_n o8]
 by_cases o10 : op = 10
 ·simp only [ite_y o10]
  have hs:=spawnN_mo p p' i1 pos names (fl:=(σ.fl ++ es.flatMap (Ex.nm p σ.made)) ++ wrongL (decide (0 < σ.opn)) 61 pos) (fl':=(τ.fl ++ es.flatMap (Ex.nm p' τ.made)) ++ wrongL (decide (0 < τ.opn)) 61 pos) (by
   rw [← k.opn]
   exact (kE.add (fun e=>e)).fl)
  refine ⟨⟨hm,k.count,k.opn,fun e=>?_⟩,trivial⟩
  simp only at e ⊢
  obtain ⟨e1,e2⟩:=List.append_eq_nil_iff.1 e
  rw [hs.fl e1,← hs.count,e2]; rfl
 simp only [ite_n o10]
 by_cases o9 : op = 9
 ·simp only [ite_y o9]
  have hs:=blockN_mo p p' i1 pos [] (σ:=⟨σ.made,σ.count,σ.opn + 1,σ.fl ++ es.flatMap (Ex.nm p σ.made)⟩) (τ:=⟨τ.made,τ.count,τ.opn + 1,τ.fl ++ es.flatMap (Ex.nm p' τ.made)⟩) ⟨hm,k.count,by simp only [k.opn],kE.fl⟩
  exact ⟨⟨hs.made,hs.count,by simp only [hs.opn],hs.fl⟩,trivial⟩
 simp only [ite_n o9]
 by_cases o11 : op = 11
 ·simp only [ite_y o11]
  exact ⟨blockN_mo p p' i1 pos _ (kE.add (by rw [hm]; exact fun e=>e)),trivial⟩
 simp only [ite_n o11]
 exact ⟨blockN_mo p p' i2 pos _ (blockN_mo p p' i1 pos _ kE),trivial⟩
theorem fieldsN_mo {p p' : List It} (h : MonoL p p') (pos : Int) : ∀ (l : List Fi) (met : List ByteArray),fieldsN p pos met l = [] → fieldsN p' pos met l = []
 | [],_,_=>rfl
 | f :: l,met,e=>by
  unfold fieldsN at e ⊢
  obtain ⟨e1,e2⟩:=List.append_eq_nil_iff.1 e
  obtain ⟨e3,e4⟩:=List.append_eq_nil_iff.1 e2
  rw [e1,tyNm_mo h pos _ e3,fieldsN_mo h pos l _ e4]; rfl
theorem again_zero (p : List It) (x : It) : againN p 0 x = false:=by unfold againN; simp
theorem bodyN_mo {p p' : List It} (h : MonoL p p') (x : It) {fl fl' : List Flt} (k : fl = [] → fl' = []) : NfR (bodyN p x fl) (bodyN p' x fl'):=by
 unfold bodyN
 obtain ⟨b1,b2⟩:=stsNm_mo p p' x.body (fun s _=>stNm_mo h s) ⟨(x.fields.map Fi.name).foldl (fun m s=>mPut m s true) [],x.fields.length,0,fl⟩ ⟨(x.fields.map Fi.name).foldl (fun m s=>mPut m s true) [],x.fields.length,0,fl'⟩ ⟨rfl,rfl,rfl,k⟩
 simp only
 rw [b2]
 refine NfR.undo _ (b1.add ?_)
 rw [← b1.made]
 exact exNm_mo h _ x.ret
theorem item0_mo {p p' : List It} (h : MonoL p p') (x : It) (e : itemN p 0 x [] = []) : itemN p' 0 x [] = []:=by
 unfold itemN at e ⊢
 simp only [again_zero,Bool.not_false,wrongL_true,List.append_nil,List.nil_append] at e ⊢
 by_cases h3 : x.kind = 3
 ·rw [if_pos h3] at e ⊢
  obtain ⟨e1,e2⟩:=List.append_eq_nil_iff.1 e
  have hb:=bodyN_mo h x (fl:=fieldsN p x.pos [] x.fields ++ x.result.nm p x.pos) (fl':=fieldsN p' x.pos [] x.fields ++ x.result.nm p' x.pos) (fun e=>by
   obtain ⟨e3,e4⟩:=List.append_eq_nil_iff.1 e
   rw [fieldsN_mo h _ _ _ e3,tyNm_mo h _ _ e4]; rfl)
  rw [hb.fl e1,← hb.count,e2]; rfl
 ·rw [if_neg h3] at e ⊢
  exact fieldsN_mo h _ _ _ e
theorem item_split (p : List It) (q : Nat) (x : It) (fl : List Flt) : itemN p q x fl = fl ++ (wrongL (!againN p q x) 60 x.pos ++ itemN p 0 x []):=by
 have e : itemN p q x fl = itemN p 0 x ((fl ++ wrongL (!againN p q x) 60 x.pos) ++ []):=by
  unfold itemN
  simp only [again_zero,Bool.not_false,wrongL_true,List.append_nil]
 rw [e,itemN_pre,List.append_assoc]
theorem items_nil (p : List It) : ∀ (l : List It) (q : Nat) (fl : List Flt),itemsN p q l fl = [] ↔ fl = [] ∧ (∀ i (h : i < l.length),againN p (q + i) l[i] = false) ∧ ∀ x ∈ l,itemN p 0 x [] = []
 | [],q,fl=>by
  unfold itemsN
  exact ⟨fun e=>⟨e,fun i h=>absurd h (by simp),fun x hx=>by cases hx⟩,fun e=>e.1⟩
 | x :: l,q,fl=>by
  unfold itemsN
  rw [items_nil p l,item_split]
  constructor
  ·rintro ⟨e,h1,h2⟩
   obtain ⟨e1,e2⟩:=List.append_eq_nil_iff.1 e
   obtain ⟨e3,e4⟩:=List.append_eq_nil_iff.1 e2
   have e5:=wrongL_nil e3
   refine ⟨e1,fun i hi=>?_,fun y hy=>?_⟩
   ·cases i with
    | zero=>simpa using e5
    | succ i =>
     have:=h1 i (by simpa using hi)
     rw [show q + 1 + i = q + (i + 1) by omega] at this
     exact this
   ·rcases List.mem_cons.1 hy with rfl | hy
    ·exact e4
    ·exact h2 y hy
  ·rintro ⟨e,h1,h2⟩
   have e0:=h1 0 (by simp)
   simp only [Nat.add_zero,List.getElem_cons_zero] at e0
   refine ⟨by rw [e,e0,h2 x (by simp)]; rfl,fun i hi=>?_,fun y hy=>h2 y (List.mem_cons_of_mem _ hy)⟩
   have:=h1 (i + 1) (by simpa using hi)
   rw [show q + (i + 1) = q + 1 + i by omega] at this
   exact this
def clash (y x : It) : Bool:=(decide (y.kind = 3) == decide (x.kind = 3)) && sEq y.name x.name
theorem clash_symm {y x : It} (h : clash y x = false) : clash x y = false:=by
 rcases Bool.eq_false_or_eq_true (clash x y) with k | k
 ·unfold clash at h k
  rw [Bool.and_eq_true] at k
  have e1:=sEq_iff.1 k.2
  have e2:=beq_iff_eq.1 k.1
  rw [e1,e2] at h
  simp at h
 ·exact k
theorem again_pw (p : List It) : (∀ i (h : i < p.length),againN p (0 + i) p[i] = false) ↔ p.Pairwise fun y x=>clash y x = false:=by
 rw [List.pairwise_iff_getElem]
 constructor
 ·intro h i j hi hj hij
  have:=h j hj
  unfold againN at this
  rw [Nat.zero_add,List.any_eq_false] at this
  have k:=this p[i] (List.mem_take_iff_getElem.2 ⟨i,by omega,rfl⟩)
  simpa [clash] using k
 ·intro h j hj
  unfold againN
  rw [Nat.zero_add,List.any_eq_false]
  intro y hy
  obtain ⟨i,hi,rfl⟩:=List.mem_take_iff_getElem.1 hy
  have:=h i j (by omega) hj (by omega)
  simpa [clash] using this
theorem check_nil (p : List It) : checkN p = [] ↔ prWhole p = true ∧ (p.Pairwise fun y x=>clash y x = false) ∧ (∀ x ∈ p,itemN p 0 x [] = []) ∧ mainB p mainS = true:=by
 unfold checkN
 by_cases hw : prWhole p = true
 ·rw [if_pos hw]
  constructor
  ·intro e
   obtain ⟨e1,e2⟩:=List.append_eq_nil_iff.1 e
   obtain ⟨_,h1,h2⟩:=(items_nil p p 0 []).1 e1
   exact ⟨hw,(again_pw p).1 h1,h2,wrongL_nil e2⟩
  ·rintro ⟨_,h1,h2,h3⟩
   rw [(items_nil p p 0 []).2 ⟨rfl,(again_pw p).2 h1,h2⟩,h3]; rfl
 ·rw [if_neg hw]
  exact ⟨(fun e=>by cases e),fun e=>absurd e.1 hw⟩
theorem main_mo {p p' : List It} (h : MonoL p p') (e : mainB p mainS = true) : mainB p' mainS = true:=by
 unfold mainB at e ⊢
 cases hx : fnIt p mainS with
 | none=>rw [hx] at e; cases e
 | some x=>rw [hx] at e; rw [h.fn _ x hx]; exact e
theorem find_rev {α : Type} (f : α → Bool) : ∀ l : List α,(l.Pairwise fun y x=>(f y && f x) = false) → l.reverse.find? f = l.find? f
 | [],_=>rfl
 | a :: l,h=>by
  obtain ⟨h1,h2⟩:=List.pairwise_cons.1 h
  rw [List.reverse_cons,List.find?_append,find_rev f l h2,List.find?_cons]
  cases ha : f a with
  | true =>
   have : l.find? f = none:=List.find?_eq_none.2 fun x hx=>by
    have:=h1 x hx
    rw [ha] at this
    simpa using this
   rw [this]; simp [ha]
  | false =>
   simp [ha]
theorem pw_fn {p : List It} (h : p.Pairwise fun y x=>clash y x = false) (s : ByteArray) : fnIt p.reverse s = fnIt p s:=by
 unfold fnIt
 refine find_rev _ p (h.imp fun {y x} k=>?_)
 rcases Bool.eq_false_or_eq_true ((decide (y.kind = 3) && sEq y.name s) && (decide (x.kind = 3) && sEq x.name s)) with e | e
 ·simp only [Bool.and_eq_true,decide_eq_true_eq] at e
  obtain ⟨⟨a,b⟩,c,d⟩:=e
  unfold clash at k
  rw [sEq_iff.1 b,sEq_iff.1 d,a,c] at k
  simp at k
 ·exact e
theorem pw_it {p : List It} (h : p.Pairwise fun y x=>clash y x = false) (s : ByteArray) : firstIt p.reverse s = firstIt p s:=by
 unfold firstIt
 refine find_rev _ p (h.imp fun {y x} k=>?_)
 rcases Bool.eq_false_or_eq_true ((decide (y.kind ≠ 3) && sEq y.name s) && (decide (x.kind ≠ 3) && sEq x.name s)) with e | e
 ·simp only [Bool.and_eq_true,decide_eq_true_eq] at e
  obtain ⟨⟨a,b⟩,c,d⟩:=e
  unfold clash at k
  rw [sEq_iff.1 b,sEq_iff.1 d] at k
  simp [a,c] at k
 ·exact e
theorem whole_rev {p : List It} (h : prWhole p = true) : prWhole p.reverse = true:=by
 unfold prWhole allUp at h ⊢
 simp only [Bool.and_eq_true,decide_eq_true_eq,List.length_reverse] at h ⊢
 have hl:=h.1
 rw [List.take_of_length_le (by omega)] at h
 rw [List.take_of_length_le (by rw [List.length_reverse]; omega)]
 exact ⟨hl,by rw [List.all_reverse]; exact h.2⟩
theorem check_rev1 {p : List It} (e : checkN p = []) : checkN p.reverse = []:=by
 obtain ⟨hw,h1,h2,h3⟩:=(check_nil p).1 e
 have hm : MonoL p p.reverse:=⟨fun s x k=>by rw [pw_fn h1]; exact k,fun s x k=>by rw [pw_it h1]; exact k⟩
 refine (check_nil _).2 ⟨whole_rev hw,?_,fun x hx=>item0_mo hm x (h2 x (List.mem_reverse.1 hx)),main_mo hm h3⟩
 rw [List.pairwise_reverse]
 exact h1.imp fun k=>clash_symm k
theorem check_rev (p : List It) : checkN p.reverse = [] ↔ checkN p = [] :=
 ⟨fun e=>by have:=check_rev1 e; rwa [List.reverse_reverse] at this,check_rev1⟩
def otherS : ByteArray:=(⟨#[113,117,105,116,101,95,111,116,104,101,114]⟩ : ByteArray)
def qoIt : It:=⟨3,otherS,[],.mk 3 emS [],[],.mk 3 0 emS emS ⟨emS,[]⟩ [] 0,0⟩
theorem qo_whole : qoIt.whole 39 = true:=by kernel_rfl
theorem qo_right (p : List It) : itemN p 0 qoIt [] = []:=by
 unfold itemN
 simp only [again_zero,Bool.not_false,wrongL_true,List.append_nil,List.nil_append]
 have e1 : qoIt.kind = 3:=rfl
 have e2 : qoIt.fields = []:=rfl
 have e3 : qoIt.result = .mk 3 emS []:=rfl
 have e4 : qoIt.body = []:=rfl
 have e5 : qoIt.ret = .mk 3 0 emS emS ⟨emS,[]⟩ [] 0:=rfl
 have e6 : sEq emS emS = true:=sEq_iff.2 rfl
 rw [if_pos e1,e2,e3]
 unfold bodyN
 simp only [e2,e4,e5,St.nms,Nf.undo,fieldsN,Ty.nm,Ty.nms,Ex.nm,Ex.nms,Nf.add]
 simp [namedN,e6,wrongL_true]
theorem check_more {p : List It} (e : checkN p = []) (hno : fnIt p otherS = none) (hl : p.length + 1 ≤ 30) : checkN (p ++ [qoIt]) = []:=by
 obtain ⟨hw,h1,h2,h3⟩:=(check_nil p).1 e
 have hm : MonoL p (p ++ [qoIt]):=⟨fun s x k=>by unfold fnIt at k ⊢; rw [List.find?_append,k]; rfl,fun s x k=>by unfold firstIt at k ⊢; rw [List.find?_append,k]; rfl⟩
 refine (check_nil _).2 ⟨?_,?_,fun x hx=>?_,main_mo hm h3⟩
 ·unfold prWhole allUp at hw ⊢
  simp only [Bool.and_eq_true,decide_eq_true_eq] at hw ⊢
  rw [List.take_of_length_le (by omega)] at hw
  rw [List.take_of_length_le (by simp; omega)]
  refine ⟨by simp; omega,?_⟩
  rw [List.all_append,hw.2]
  simp [qo_whole]
 ·rw [List.pairwise_append]
  refine ⟨h1,List.pairwise_singleton _ _,fun x hx y hy=>?_⟩
  rw [List.mem_singleton.1 hy]
  unfold fnIt at hno
  have:=List.find?_eq_none.1 hno x hx
  unfold clash
  simpa [qoIt] using this
 ·rcases List.mem_append.1 hx with hx | hx
  ·exact item0_mo hm x (h2 x hx)
  ·rw [List.mem_singleton.1 hx]; exact qo_right _
theorem rev_nd (p : List It) : (p.reverse.map It.nd).sum = (p.map It.nd).sum:=by
 rw [List.map_reverse,List.sum_reverse]
end Go.Proofs.YtlclonljdagpkaaGreatDoor
