/- A part of the proof. The statement is proved in the claim's last text. -/
import Derived.Test.YtlclonljdagpkaaGreatDoorQNQl
set_option linter.unusedVariables false
set_option linter.unusedSimpArgs false
set_option maxRecDepth 100000
set_option maxHeartbeats 32000000
namespace Go.Proofs.YtlclonljdagpkaaGreatDoor
open Go.RowKit
def Nf.pre (l : List Flt) (σ : Nf) : Nf:=⟨σ.made,σ.count,σ.opn,l ++ σ.fl⟩
section
variable (l0 : List Flt) (p : List It)
theorem zWu (s : ByteArray) (pos : Int) (σ : Nf) : (σ.pre l0).mk1 s pos = (σ.mk1 s pos).pre l0:=by
 unfold Nf.mk1 Nf.pre;simp only [List.append_assoc]
theorem zFc (pos : Int) : ∀ (l : List ByteArray) (σ : Nf),Nf.mkS l pos (σ.pre l0) = ((Nf.mkS l pos σ).1.pre l0,(Nf.mkS l pos σ).2)
 | [],σ=>rfl
 | s :: l,σ=>by
  rw [Nf.mkS,zWu,zFc pos l,Nf.mkS];rfl
theorem zFG : ∀ (l : List Fg) (σ : Nf),Nf.undo l (σ.pre l0) = (Nf.undo l σ).pre l0
 | [],σ=>rfl
 | h :: l,σ=>by rw [Nf.undo,zFG l,Nf.undo]; rfl
theorem zRY (σ : Nf) (l : List Flt) : (σ.pre l0).add l = (σ.add l).pre l0:=by
 unfold Nf.add Nf.pre;simp only [List.append_assoc]
def StP (s : St) : Prop:=∀ σ : Nf,s.nm p (σ.pre l0) = ((s.nm p σ).1.pre l0,(s.nm p σ).2)
theorem zFH : ∀ (l : List St),(∀ s ∈ l,StP l0 p s) -> ∀ σ : Nf,St.nms p l (σ.pre l0) = ((St.nms p l σ).1.pre l0,(St.nms p l σ).2)
 | [],h,σ=>by simp only [St.nms]
 | s :: l,h,σ=>by
  simp only [St.nms];rw [h s (by simp) σ,zFH l (fun y hy=>h y (List.mem_cons_of_mem _ hy))]
theorem zCw {l : List St} (h : ∀ s ∈ l,StP l0 p s) (pos : Int) (names : List ByteArray) (σ : Nf) : zy p l pos names (σ.pre l0) = (zy p l pos names σ).pre l0:=by
 unfold zy;rw [zFc];simp only;rw [zFH l0 p l h];simp only;rw [zFG,zFG]
theorem zOc {l : List St} (h : ∀ s ∈ l,StP l0 p s) (pos : Int) (names : List ByteArray) (fl : List Flt) : zBQ p l pos names (l0 ++ fl) = (zBQ p l pos names fl).pre l0:=by
 unfold zBQ
 have e : (⟨[],0,0,l0 ++ fl⟩ : Nf) = Nf.pre l0 ⟨[],0,0,fl⟩:=rfl
 rw [e,zFc];simp only;rw [zFH l0 p l h];simp only;rw [zFG]
theorem zM5 (pos : Int) : ∀ (l : List Ar),(∀ a ∈ l,∀ s ∈ a.body,StP l0 p s) -> ∀ σ : Nf,l.foldl (fun σ a=>a.nm p pos σ) (σ.pre l0) = (l.foldl (fun σ a=>a.nm p pos σ) σ).pre l0
 | [],h,σ=>rfl
 | a :: l,h,σ=>by
  simp only [List.foldl_cons]
  have e : a.nm p pos (σ.pre l0) = (a.nm p pos σ).pre l0:=by
   unfold Ar.nm;exact zCw l0 p (h a (by simp)) pos (oneN a.name) σ
  rw [e];exact zM5 pos l (fun b hb=>h b (List.mem_cons_of_mem _ hb)) _
theorem zTu : ∀ s : St,StP l0 p s:=by
 refine St.ind fun s i1 i2 i3 σ=>?_
 have hmade : (σ.pre l0).made = σ.made:=rfl
 have hopn : (σ.pre l0).opn = σ.opn:=rfl
 have hcnt : (σ.pre l0).count = σ.count:=rfl
 have hfl : (σ.pre l0).fl = l0 ++ σ.fl:=rfl
 obtain ⟨op,name,second,names,ty,int,pl,es,b,el,ar,pos⟩:=s
 rw [zJG p,zJG p];simp only [St.op,St.name,St.second,St.names,St.type,St.int,St.place,St.exprs,St.body,St.els,St.arms,St.pos] at *;simp only [hmade,hopn,hcnt,hfl,zRY,List.append_assoc]
 by_cases o1 : op = 1
 .simp only [zBq o1,zFc]
 simp only [zBl o1]
 by_cases o2 : op = 2
 .simp only [zBq o2,zFc]
 simp only [zBl o2]
 by_cases o3 : op = 3
 .simp only [zBq o3]
 simp only [zBl o3]
 by_cases o5 : op = 5
 .simp only [zBq o5]
 simp only [zBl o5]
 by_cases o12 : op = 12
 .simp only [zBq o12,zFc]
 simp only [zBl o12]
 by_cases o8 : op = 8
 .simp only [zBq o8,zM5 l0 p pos ar i3]
 simp only [zBl o8]
 by_cases o10 : op = 10
 .simp only [zBq o10,zOc l0 p i1]
  simp only [Nf.pre,List.append_assoc];rfl
 simp only [zBl o10]
 by_cases o9 : op = 9
 .have e : (⟨σ.made,σ.count,σ.opn + 1,l0 ++ (σ.fl ++ es.flatMap (Ex.nm p σ.made))⟩ : Nf) = Nf.pre l0 ⟨σ.made,σ.count,σ.opn + 1,σ.fl ++ es.flatMap (Ex.nm p σ.made)⟩:=rfl
  simp only [zBq o9,e,zCw l0 p i1];rfl
 simp only [zBl o9]
 by_cases o11 : op = 11
 .simp only [zBq o11,zCw l0 p i1]
 simp only [zBl o11,zCw l0 p i1,zCw l0 p i2]
theorem zRZ (x : It) (fl : List Flt) : zDE p x (l0 ++ fl) = (zDE p x fl).pre l0:=by
 unfold zDE
 have e : (⟨(x.fields.map Fi.name).foldl (fun m s=>mPut m s true) [],x.fields.length,0,l0 ++ fl⟩ : Nf) = Nf.pre l0 ⟨(x.fields.map Fi.name).foldl (fun m s=>mPut m s true) [],x.fields.length,0,fl⟩:=rfl
 rw [e];simp only;rw [zFH l0 p x.body (fun s _=>zTu l0 p s)]
 simp only;rw [<- zFG,<- zRY];rfl
theorem zRa (q : Nat) (x : It) (fl : List Flt) : zBJ p q x (l0 ++ fl) = l0 ++ zBJ p q x fl:=by
 unfold zBJ;simp only [List.append_assoc]
 by_cases h3 : x.kind = 3
 .rw [if_pos h3,if_pos h3,zRZ]
  simp only [Nf.pre,List.append_assoc];rfl
 .rw [if_neg h3,if_neg h3]
end
end Go.Proofs.YtlclonljdagpkaaGreatDoor
