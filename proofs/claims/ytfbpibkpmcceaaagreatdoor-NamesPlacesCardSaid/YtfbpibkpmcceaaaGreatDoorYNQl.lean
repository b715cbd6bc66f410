/- A part of the proof. The statement is proved in the claim's last text. -/
import Derived.Test.YtfbpibkpmcceaaaGreatDoorYMNp
import Derived.Test.YtfbpibkpmcceaaaGreatDoorYNQk
set_option linter.unusedVariables false
set_option linter.unusedSimpArgs false
set_option maxRecDepth 100000
set_option maxHeartbeats 32000000
namespace Go.Proofs.YtfbpibkpmcceaaaGreatDoor
open Go.RowKit
theorem ite_y {c : Prop} (h : c) {α : Type} {d : Decidable c} (a b : α) : @ite α c d a b = a:=if_pos h
theorem ite_n {c : Prop} (h : ¬ c) {α : Type} {d : Decidable c} (a b : α) : @ite α c d a b = b:=if_neg h
theorem stNmk (p : List It) (op : Int) (name second : ByteArray) (names : List ByteArray) (ty : Ty) (int : Int) (pl : Pl) (es : List Ex) (b el : List St) (ar : List Ar) (pos : Int) (σ : Nf) : (St.mk op name second names ty int pl es b el ar pos).nm p σ =
  if op = 1 then Nf.mkS [name] pos (σ.add (es.flatMap (Ex.nm p σ.made)))
  else if op = 2 then Nf.mkS names pos ((σ.add (es.flatMap (Ex.nm p σ.made))).add (wrongL (takeB p name names.length) 60 pos))
  else if op = 3 then ((σ.add (es.flatMap (Ex.nm p σ.made))).add (wrongL (mIs σ.made pl.name) 60 pos),[])
  else if op = 5 then ((σ.add (es.flatMap (Ex.nm p σ.made))).add (wrongL (mIs σ.made name) 60 pos),[])
  else if op = 12 then Nf.mkS [name,second] pos ((σ.add (es.flatMap (Ex.nm p σ.made))).add (ty.nm p pos))
  else if op = 8 then (ar.foldl (fun σ a=>a.nm p pos σ) ((σ.add (es.flatMap (Ex.nm p σ.made))).add (wrongL (mIs σ.made name && matchN p second (ar.map armF)) 60 pos)),[])
  else if op = 10 then
   (⟨σ.made,σ.count,σ.opn,(spawnN p b pos names ((σ.fl ++ es.flatMap (Ex.nm p σ.made)) ++ wrongL (decide (0 < σ.opn)) 61 pos)).fl ++ wrongL (decide ((spawnN p b pos names ((σ.fl ++ es.flatMap (Ex.nm p σ.made)) ++ wrongL (decide (0 < σ.opn)) 61 pos)).count ≤ 60)) 4 pos⟩,[])
  else if op = 9 then
   ((fun (g : Nf)=>(⟨g.made,g.count,g.opn - 1,g.fl⟩ : Nf)) (blockN p b pos [] ⟨σ.made,σ.count,σ.opn + 1,σ.fl ++ es.flatMap (Ex.nm p σ.made)⟩),[])
  else if op = 11 then (blockN p b pos [name] ((σ.add (es.flatMap (Ex.nm p σ.made))).add (wrongL (mIs σ.made pl.name) 60 pos)),[])
  else (blockN p el pos [] (blockN p b pos [] (σ.add (es.flatMap (Ex.nm p σ.made)))),[]):=stNm p (St.mk op name second names ty int pl es b el ar pos) σ
theorem stAtmk (g : Int → Int) (op : Int) (name second : ByteArray) (names : List ByteArray) (ty : Ty) (int : Int) (pl : Pl) (es : List Ex) (b el : List St) (ar : List Ar) (pos : Int) : (St.mk op name second names ty int pl es b el ar pos).atm g = .mk op name second names ty int pl (es.map (Ex.atm g)) (b.map (St.atm g)) (el.map (St.atm g)) (ar.map (Ar.atm g)) (g pos):=stAtm g _
def zG (g : Int → Int) (f : Flt) : Flt:=(f.1,g f.2)
theorem wrongL_atm (g : Int → Int) (b : Bool) (e a : Int) : wrongL b e (g a) = (wrongL b e a).map (zG g):=by cases b <;> rfl
def Nf.atm (g : Int → Int) (σ : Nf) : Nf:=⟨σ.made,σ.count,σ.opn,σ.fl.map (zG g)⟩
section
variable (g : Int → Int) (p : List It)
abbrev pG : List It:=p.map (It.atm g)
theorem fnIt_atm (s : ByteArray) : fnIt (pG g p) s = (fnIt p s).map (It.atm g):=by unfold fnIt; rw [List.find?_map]; rfl
theorem firstIt_atm (s : ByteArray) : firstIt (pG g p) s = (firstIt p s).map (It.atm g):=by unfold firstIt; rw [List.find?_map]; rfl
theorem namedN_atm (m : List Fg) (op : Int) (nm sc : ByteArray) (pl : Pl) (n : Nat) : namedN (pG g p) m op nm sc pl n = namedN p m op nm sc pl n:=by
 unfold namedN
 rw [fnIt_atm,firstIt_atm]
 cases fnIt p nm <;> cases firstIt p nm <;> rfl
theorem exNm_atm (m : List Fg) : ∀ e : Ex,(e.atm g).nm (pG g p) m = (e.nm p m).map (zG g):=by
 refine Ex.ind fun e ih=>?_
 have h : ∀ l : List Ex,(∀ x ∈ l,(x.atm g).nm (pG g p) m = (x.nm p m).map (zG g)) → (l.map (Ex.atm g)).flatMap (Ex.nm (pG g p) m) = (l.flatMap (Ex.nm p m)).map (zG g):=fun l hl=>by
  induction l with
  | nil=>rfl
  | cons x l ih =>
   simp only [List.map_cons,List.flatMap_cons,List.map_append]
   rw [hl x (by simp),ih fun y hy=>hl y (List.mem_cons_of_mem _ hy)]
 rw [exNm,exNm p m e,exAtm,List.map_append,← wrongL_atm]
 obtain ⟨op,int,name,second,pl,args,pos⟩:=e
 simp only [Ex.op,Ex.int,Ex.name,Ex.second,Ex.place,Ex.args,Ex.pos] at *
 rw [List.length_map,namedN_atm,h _ ih]
theorem exsNm_atm (m : List Fg) (l : List Ex) : (l.map (Ex.atm g)).flatMap (Ex.nm (pG g p) m) = (l.flatMap (Ex.nm p m)).map (zG g):=by
 induction l with
 | nil=>rfl
 | cons x l ih =>
  simp only [List.map_cons,List.flatMap_cons,List.map_append]
  rw [exNm_atm,ih]
theorem tyNm_atm (pos : Int) : ∀ t : Ty,t.nm (pG g p) (g pos) = (t.nm p pos).map (zG g):=by
 refine Ty.ind fun t ih=>?_
 have h : ∀ l : List Ty,(∀ x ∈ l,x.nm (pG g p) (g pos) = (x.nm p pos).map (zG g)) → l.flatMap (Ty.nm (pG g p) (g pos)) = (l.flatMap (Ty.nm p pos)).map (zG g):=fun l hl=>by
  induction l with
  | nil=>rfl
  | cons x l ih =>
   simp only [List.flatMap_cons,List.map_append]
   rw [hl x (by simp),ih fun y hy=>hl y (List.mem_cons_of_mem _ hy)]
 rw [tyNm,tyNm p pos t,List.map_append,h _ ih,firstIt_atm]
 split
 ·rw [← wrongL_atm]; cases firstIt p t.name <;> rfl
 ·rfl
theorem mk1_atm (s : ByteArray) (pos : Int) (σ : Nf) : (σ.atm g).mk1 s (g pos) = (σ.mk1 s pos).atm g:=by
 unfold Nf.mk1 Nf.atm
 simp only [List.map_append,← wrongL_atm]
theorem mkS_atm (pos : Int) : ∀ (l : List ByteArray) (σ : Nf),Nf.mkS l (g pos) (σ.atm g) = ((Nf.mkS l pos σ).1.atm g,(Nf.mkS l pos σ).2)
 | [],σ=>rfl
 | s :: l,σ=>by
  rw [Nf.mkS,mk1_atm,mkS_atm pos l,Nf.mkS]
  rfl
theorem undo_atm : ∀ (l : List Fg) (σ : Nf),Nf.undo l (σ.atm g) = (Nf.undo l σ).atm g
 | [],σ=>rfl
 | h :: l,σ=>by rw [Nf.undo,undo_atm l,Nf.undo]; rfl
theorem add_atm (σ : Nf) (l : List Flt) : (σ.atm g).add (l.map (zG g)) = (σ.add l).atm g:=by
 unfold Nf.add Nf.atm
 simp only [List.map_append]
theorem itemK_atm (k : Int) (s : ByteArray) : itemK (pG g p) k s = (itemK p k s).map (It.atm g):=by
 unfold itemK
 rw [firstIt_atm]
 cases h : firstIt p s with
 | none=>rfl
 | some x =>
  show (if (x.atm g).kind = k then some (x.atm g) else none) = Option.map _ (if x.kind = k then some x else none)
  by_cases hk : x.kind = k
  ·rw [if_pos hk,if_pos (show (x.atm g).kind = k from hk)]; rfl
  ·rw [if_neg hk,if_neg (show ¬ (x.atm g).kind = k from hk)]; rfl
theorem takeB_atm (s : ByteArray) (n : Nat) : takeB (pG g p) s n = takeB p s n:=by
 unfold takeB; rw [itemK_atm]; cases itemK p 1 s <;> rfl
theorem armsN_atm (x : It) : ∀ (l : List Fg) (met : List ByteArray),armsN (x.atm g) met l = armsN x met l
 | [],met=>rfl
 | a :: l,met=>by rw [armsN,armsN_atm x l,armsN]; rfl
theorem matchN_atm (s : ByteArray) (l : List Fg) : matchN (pG g p) s l = matchN p s l:=by
 unfold matchN; rw [itemK_atm]
 cases itemK p 2 s with
 | none=>rfl
 | some x =>
  show coversN (x.atm g) l = coversN x l
  unfold coversN
  rw [armsN_atm]
  rfl
def StA (s : St) : Prop:=∀ σ : Nf,(s.atm g).nm (pG g p) (σ.atm g) = ((s.nm p σ).1.atm g,(s.nm p σ).2)
theorem stsNm_atm : ∀ (l : List St),(∀ s ∈ l,StA g p s) → ∀ σ : Nf,St.nms (pG g p) (l.map (St.atm g)) (σ.atm g) = ((St.nms p l σ).1.atm g,(St.nms p l σ).2)
 | [],h,σ=>by simp only [List.map_nil,St.nms]
 | s :: l,h,σ=>by
  simp only [List.map_cons,St.nms]
  rw [h s (by simp) σ,stsNm_atm l (fun y hy=>h y (List.mem_cons_of_mem _ hy))]
theorem blockN_atm {l : List St} (h : ∀ s ∈ l,StA g p s) (pos : Int) (names : List ByteArray) (σ : Nf) : blockN (pG g p) (l.map (St.atm g)) (g pos) names (σ.atm g) = (blockN p l pos names σ).atm g:=by
 unfold blockN
 rw [mkS_atm]
 simp only
 rw [stsNm_atm g p l h]
 simp only
 rw [undo_atm,undo_atm]
theorem spawnN_atm {l : List St} (h : ∀ s ∈ l,StA g p s) (pos : Int) (names : List ByteArray) (fl : List Flt) : spawnN (pG g p) (l.map (St.atm g)) (g pos) names (fl.map (zG g)) = (spawnN p l pos names fl).atm g:=by
 unfold spawnN
 have e : (⟨[],0,0,fl.map (zG g)⟩ : Nf) = Nf.atm g ⟨[],0,0,fl⟩:=rfl
 rw [e,mkS_atm]
 simp only
 rw [stsNm_atm g p l h]
 simp only
 rw [undo_atm]
theorem arms_atm (pos : Int) : ∀ (l : List Ar),(∀ a ∈ l,∀ s ∈ a.body,StA g p s) → ∀ σ : Nf,(l.map (Ar.atm g)).foldl (fun σ a=>a.nm (pG g p) (g pos) σ) (σ.atm g) = (l.foldl (fun σ a=>a.nm p pos σ) σ).atm g
 | [],h,σ=>rfl
 | a :: l,h,σ=>by
  simp only [List.map_cons,List.foldl_cons]
  have e : (a.atm g).nm (pG g p) (g pos) (σ.atm g) = (a.nm p pos σ).atm g:=by
   unfold Ar.nm
   exact blockN_atm g p (h a (by simp)) pos (oneN a.name) σ
  rw [e]
  exact arms_atm pos l (fun b hb=>h b (List.mem_cons_of_mem _ hb)) _
theorem armF_atm (l : List Ar) : (l.map (Ar.atm g)).map armF = l.map armF:=by
 rw [List.map_map]; rfl
theorem stNm_atm : ∀ s : St,StA g p s:=by
 refine St.ind fun s i1 i2 i3 σ=>?_
 have hes : ∀ m,((s.exprs.map (Ex.atm g)).flatMap (Ex.nm (pG g p) m)) = (s.exprs.flatMap (Ex.nm p m)).map (zG g):=fun m=>exsNm_atm g p m s.exprs
 have hmade : (σ.atm g).made = σ.made:=rfl
 have hopn : (σ.atm g).opn = σ.opn:=rfl
 have hcnt : (σ.atm g).count = σ.count:=rfl
 have hfl : (σ.atm g).fl = σ.fl.map (zG g):=rfl
 obtain ⟨op,name,second,names,ty,int,pl,es,b,el,ar,pos⟩:=s
 rw [stAtmk,stNmk (pG g p),stNmk p]
 simp only [St.op,St.name,St.second,St.names,St.type,St.int,St.place,St.exprs,St.body,St.els,St.arms,St.pos] at *
 simp only [hes,hmade,hopn,hcnt,hfl,takeB_atm,armF_atm,matchN_atm,tyNm_atm,wrongL_atm,add_atm]
 by_cases o1 : op = 1
 ·simp only [ite_y o1,mkS_atm]
 simp only [ite_n o1]
 by_cases o2 : op = 2
 ·simp only [ite_y o2,mkS_atm]
 simp only [ite_n o2]
 by_cases o3 : op = 3
 ·simp only [ite_y o3]
 simp only [ite_n o3]
 by_cases o5 : op = 5
 ·simp only [ite_y o5]
 simp only [ite_n o5]
 by_cases o12 : op = 12
 ·simp only [ite_y o12,mkS_atm]
 simp only [ite_n o12]
 by_cases o8 : op = 8
 ·simp only [ite_y o8,arms_atm g p pos ar i3]
 simp only [ite_n o8]
 by_cases o10 : op = 10
 ·simp only [ite_y o10,← List.map_append,spawnN_atm g p i1]
  simp only [Nf.atm,List.map_append]
  rfl
 simp only [ite_n o10]
 by_cases o9 : op = 9
 ·have e : (⟨σ.made,σ.count,σ.opn + 1,σ.fl.map (zG g) ++ (es.flatMap (Ex.nm p σ.made)).map (zG g)⟩ : Nf) = Nf.atm g ⟨σ.made,σ.count,σ.opn + 1,σ.fl ++ es.flatMap (Ex.nm p σ.made)⟩:=by simp [Nf.atm]
  simp only [ite_y o9,e,blockN_atm g p i1]
  rfl
 simp only [ite_n o9]
 by_cases o11 : op = 11
 ·simp only [ite_y o11,blockN_atm g p i1]
 simp only [ite_n o11,blockN_atm g p i1,blockN_atm g p i2]
theorem fieldsN_atm (pos : Int) : ∀ (l : List Fi) (met : List ByteArray),fieldsN (pG g p) (g pos) met l = (fieldsN p pos met l).map (zG g)
 | [],met=>rfl
 | f :: l,met=>by
  rw [fieldsN,fieldsN_atm pos l,fieldsN,List.map_append,List.map_append,tyNm_atm,wrongL_atm]
theorem againN_atm (q : Nat) (x : It) : againN (pG g p) q (x.atm g) = againN p q x:=by
 unfold againN
 rw [← List.map_take,List.any_map]
 rfl
theorem bodyN_atm (x : It) (fl : List Flt) : bodyN (pG g p) (x.atm g) (fl.map (zG g)) = (bodyN p x fl).atm g:=by
 unfold bodyN
 have e : (⟨((x.atm g).fields.map Fi.name).foldl (fun m s=>mPut m s true) [],(x.atm g).fields.length,0,fl.map (zG g)⟩ : Nf) = Nf.atm g ⟨(x.fields.map Fi.name).foldl (fun m s=>mPut m s true) [],x.fields.length,0,fl⟩:=rfl
 rw [e]
 show (fun (r : Nf × List Fg)=>Nf.undo r.2 (r.1.add ((x.ret.atm g).nm (pG g p) r.1.made))) (St.nms (pG g p) (x.body.map (St.atm g)) (Nf.atm g _)) = _
 rw [stsNm_atm g p x.body (fun s _=>stNm_atm g p s)]
 simp only
 rw [exNm_atm,← undo_atm,← add_atm]
 rfl
theorem itemN_atm (q : Nat) (x : It) (fl : List Flt) : itemN (pG g p) q (x.atm g) (fl.map (zG g)) = (itemN p q x fl).map (zG g):=by
 unfold itemN
 simp only
 rw [againN_atm]
 show (if x.kind = 3 then _ else _) = List.map (zG g) (if x.kind = 3 then _ else _)
 have e1 : (fl.map (zG g) ++ wrongL (!againN p q x) 60 (x.atm g).pos) ++ fieldsN (pG g p) (x.atm g).pos [] (x.atm g).fields = ((fl ++ wrongL (!againN p q x) 60 x.pos) ++ fieldsN p x.pos [] x.fields).map (zG g):=by
  rw [List.map_append,List.map_append,← wrongL_atm,← fieldsN_atm]
  rfl
 rw [e1]
 by_cases h3 : x.kind = 3
 ·rw [if_pos h3,if_pos h3]
  have e2 : (x.atm g).result.nm (pG g p) (x.atm g).pos = (x.result.nm p x.pos).map (zG g):=tyNm_atm g p x.pos x.result
  rw [e2,← List.map_append,bodyN_atm,List.map_append,← wrongL_atm]
  rfl
 ·rw [if_neg h3,if_neg h3]
theorem itemsN_atm : ∀ (l : List It) (q : Nat) (fl : List Flt),itemsN (pG g p) q (l.map (It.atm g)) (fl.map (zG g)) = (itemsN p q l fl).map (zG g)
 | [],q,fl=>rfl
 | x :: l,q,fl=>by
  rw [List.map_cons,itemsN,itemN_atm,itemsN_atm l,itemsN]
theorem mainB_atm (s : ByteArray) : mainB (pG g p) s = mainB p s:=by
 unfold mainB; rw [fnIt_atm]; cases fnIt p s <;> rfl
end
end Go.Proofs.YtfbpibkpmcceaaaGreatDoor
namespace Go.Proofs.YtfbpibkpmcceaaaGreatDoor
open Go.RowKit
theorem all_map_congr {α β : Type} (f : α → β) {q : β → Bool} {r : α → Bool} : ∀ (l : List α),(∀ x ∈ l,q (f x) = r x) → (l.map f).all q = l.all r
 | [],h=>rfl
 | x :: l,h=>by
  rw [List.map_cons,List.all_cons,List.all_cons,h x (by simp),all_map_congr f l fun y hy=>h y (List.mem_cons_of_mem _ hy)]
theorem allUp_map {α β : Type} (f : α → β) {q : β → Bool} {r : α → Bool} (l : List α) (m : Int) (h : ∀ x ∈ l,q (f x) = r x) : allUp q (l.map f) m = allUp r l m:=by
 unfold allUp
 rw [List.length_map,← List.map_take,all_map_congr f (l.take m.toNat) fun x hx=>h x (List.mem_of_mem_take hx)]
section
variable (g : Int → Int)
theorem exWhole_atm : ∀ (e : Ex) (d : Int),(e.atm g).whole d = e.whole d:=by
 refine Ex.ind fun e ih d=>?_
 rw [exWhole_eq,exWhole_eq e,exAtm]
 simp only [Ex.op,Ex.int,Ex.name,Ex.second,Ex.place,Ex.args,List.length_map]
 obtain ⟨op,int,name,second,pl,args,pos⟩:=e
 simp only [Ex.op,Ex.int,Ex.name,Ex.second,Ex.place,Ex.args] at *
 rw [allUp_map (Ex.atm g) (r:=fun t=>((op == 18) || !lentOp t.op) && t.whole (d - 1)) args _ fun x hx=>by
  rw [ih x hx]
  cases x; rfl]
 rfl
theorem exsB_atm (op : Int) (es : List Ex) (d : Int) : exsB op (es.map (Ex.atm g)) d = exsB op es d:=by
 unfold exsB
 exact allUp_map (Ex.atm g) es _ fun x hx=>by rw [exWhole_atm]; cases x; rfl
theorem stHead_atm (op int : Int) (nm sc : ByteArray) (names : List ByteArray) (ty : Ty) (pl : Pl) (es : List Ex) (d : Int) : stHead op int nm sc names ty pl (es.map (Ex.atm g)) d = stHead op int nm sc names ty pl es d:=by
 unfold stHead
 rw [List.length_map]
theorem stWhole_atm : ∀ (s : St) (d : Int),(s.atm g).whole d = s.whole d:=by
 refine St.ind fun s i1 i2 i3 d=>?_
 rw [stWhole_eq,stWhole_eq s,stAtm]
 obtain ⟨op,name,second,names,ty,int,pl,es,b,el,ar,pos⟩:=s
 simp only [St.op,St.name,St.second,St.names,St.type,St.int,St.place,St.exprs,St.body,St.els,St.arms,St.pos,List.length_map] at *
 rw [stHead_atm,exsB_atm,all_map_congr (St.atm g) (r:=fun t=>t.whole (d - 1)) b fun x hx=>i1 x hx _,all_map_congr (St.atm g) (r:=fun t=>t.whole (d - 1)) el fun x hx=>i2 x hx _,
  allUp_map (Ar.atm g) (r:=fun a=>a.whole (d - 1)) ar _ fun a ha=>by
   unfold Ar.whole Ar.atm
   simp only
   rw [all_map_congr (St.atm g) (r:=fun t=>t.whole (d - 1)) a.body fun x hx=>i3 a ha x hx _]]
 rfl
theorem itWhole_atm (x : It) (d : Int) : (x.atm g).whole d = x.whole d:=by
 have hz : zeroExB (x.ret.atm g) = zeroExB x.ret:=by
  rw [exAtm]; unfold zeroExB; simp only [Ex.op,Ex.int,Ex.name,Ex.second,Ex.place,Ex.args,List.length_map]
  cases x.ret; rfl
 have ho : (x.ret.atm g).op = x.ret.op:=by cases x.ret; rfl
 unfold It.whole It.atm
 simp only [List.length_map]
 rw [hz,ho,exWhole_atm,all_map_congr (St.atm g) (r:=fun s=>s.whole (d - 1)) x.body fun y _=>stWhole_atm g y _]
theorem prWhole_atm (p : List It) : prWhole (p.map (It.atm g)) = prWhole p:=by
 unfold prWhole
 exact allUp_map (It.atm g) p _ fun x _=>itWhole_atm g x _
theorem checkN_atm (h0 : g 0 = 0) (p : List It) : checkN (p.map (It.atm g)) = (checkN p).map (zG g):=by
 unfold checkN
 rw [prWhole_atm]
 split
 ·rw [List.map_append,← wrongL_atm,h0,mainB_atm]
  have:=itemsN_atm g p p 0 []
  rw [List.map_nil] at this
  rw [this]
 ·show [((2 : Int),(0 : Int))] = [(2,g 0)]
  rw [h0]
end
theorem roomFold_map {α β : Type} (f : α → β) {q : β → Int → Int} {r : α → Int → Int} : ∀ (l : List α),(∀ x ∈ l,∀ n,q (f x) n = r x n) → ∀ n,roomFold q (l.map f) n = roomFold r l n
 | [],h,n=>rfl
 | x :: l,h,n=>by
  rw [List.map_cons,roomFold,roomFold,h x (by simp)]
  rw [roomFold_map f l (fun y hy=>h y (List.mem_cons_of_mem _ hy))]
theorem exRoom_atm (g : Int → Int) : ∀ (e : Ex) (n : Int),(e.atm g).room n = e.room n:=by
 refine Ex.ind fun e ih n=>?_
 rw [exRoom_eq,exRoom_eq e,exAtm]
 simp only [Ex.name,Ex.second,Ex.place,Ex.args]
 obtain ⟨op,int,name,second,pl,args,pos⟩:=e
 exact roomFold_map (Ex.atm g) args (fun x hx=>ih x hx) _
theorem stRoom_atm (g : Int → Int) : ∀ (s : St) (n : Int),(s.atm g).room n = s.room n:=by
 refine St.ind fun s i1 i2 i3 n=>?_
 rw [stRoom_eq,stRoom_eq s,stAtm]
 obtain ⟨op,name,second,names,ty,int,pl,es,b,el,ar,pos⟩:=s
 simp only [St.room1,St.op,St.name,St.second,St.names,St.type,St.int,St.place,St.exprs,St.body,St.els,St.arms,St.pos] at *
 have h1 : ∀ n,roomFold Ex.room (es.map (Ex.atm g)) n = roomFold Ex.room es n:=roomFold_map (Ex.atm g) es fun x _=>exRoom_atm g x
 have h2 : ∀ n,roomFold St.room (b.map (St.atm g)) n = roomFold St.room b n:=roomFold_map (St.atm g) b fun x hx=>i1 x hx
 have h3 : ∀ n,roomFold St.room (el.map (St.atm g)) n = roomFold St.room el n:=roomFold_map (St.atm g) el fun x hx=>i2 x hx
 have h4 : ∀ n,roomFold Ar.room (ar.map (Ar.atm g)) n = roomFold Ar.room ar n:=roomFold_map (Ar.atm g) ar fun a ha m=>by
  rw [arRoom_eq,arRoom_eq a]
  exact roomFold_map (St.atm g) a.body (fun x hx=>i3 a ha x hx) _
 simp only [h1,h2,h3,h4]
 rfl
theorem great_atm (g : Int → Int) (p : List It) : great (p.map (It.atm g)) = great p:=by
 unfold great
 rw [roomFold_map (It.atm g) (r:=It.room) p fun x _ n=>by
  unfold It.room
  show (x.ret.atm g).room (roomFold St.room (x.body.map (St.atm g)) _) = _
  rw [exRoom_atm,roomFold_map (St.atm g) (r:=St.room) x.body fun y _=>stRoom_atm g y]
  rfl]
mutual
def insideB (a : Int) : Ex → Bool
 | .mk _ _ _ _ _ l pos=>insidesB a l || pos == a
def insidesB (a : Int) : List Ex → Bool
 | []=>false
 | e :: l=>insideB a e || insidesB a l
end
theorem insidesB_any (a : Int) (l : List Ex) : insidesB a l = l.any (insideB a):=by
 induction l with
 | nil=>rfl
 | cons e l ih=>simp [insidesB,ih]
theorem insideB_eq (a : Int) (e : Ex) : insideB a e = (e.args.any (insideB a) || e.pos == a):=by
 cases e; simp only [insideB,insidesB_any]; rfl
mutual
def withinB (a : Int) : St → Bool
 | .mk _ _ _ _ _ _ _ es b el ar pos=>es.any (insideB a) || (withinA a ar || (pos == a || (withinsB a b || withinsB a el)))
def withinsB (a : Int) : List St → Bool
 | []=>false
 | s :: l=>withinB a s || withinsB a l
def withinA (a : Int) : List (ArOf St) → Bool
 | []=>false
 | ⟨_,_,b⟩ :: l=>withinsB a b || withinA a l
end
theorem withinsB_any (a : Int) (l : List St) : withinsB a l = l.any (withinB a):=by
 induction l with
 | nil=>rfl
 | cons e l ih=>simp [withinsB,ih]
theorem withinA_any (a : Int) (l : List Ar) : withinA a l = l.any fun x=>x.body.any (withinB a):=by
 induction l with
 | nil=>rfl
 | cons e l ih=>obtain ⟨v,n,b⟩:=e; simp [withinA,ih,withinsB_any]
theorem withinB_eq (a : Int) (s : St) : withinB a s = (s.exprs.any (insideB a) || (s.arms.any (fun x=>x.body.any (withinB a)) || (s.pos == a || (s.body.any (withinB a) || s.els.any (withinB a))))):=by
 cases s; simp only [withinB,withinA_any,withinsB_any]; rfl
def placedIt (a : Int) (x : It) : Bool:=x.pos == a || (x.body.any (withinB a) || insideB a x.ret)
def placedP (p : List It) (a : Int) : Bool:=p.any (placedIt a)
section
variable {g : Int → Int}
theorem map_self {α : Type} {f : α → α} {l : List α} (h : ∀ x ∈ l,f x = x) : l.map f = l:=by
 induction l with
 | nil=>rfl
 | cons x l ih=>rw [List.map_cons,h x (by simp),ih fun y hy=>h y (List.mem_cons_of_mem _ hy)]
theorem exAtm_id : ∀ e : Ex,(∀ a,insideB a e = true → g a = a) → e.atm g = e:=by
 refine Ex.ind fun e ih h=>?_
 rw [exAtm,map_self fun x hx=>ih x hx fun a ha=>h a (by rw [insideB_eq,List.any_eq_true.2 ⟨x,hx,ha⟩]; rfl),h e.pos (by rw [insideB_eq]; simp)]
 cases e; rfl
theorem stAtm_id : ∀ s : St,(∀ a,withinB a s = true → g a = a) → s.atm g = s:=by
 refine St.ind fun s i1 i2 i3 h=>?_
 have h1 : s.exprs.map (Ex.atm g) = s.exprs:=map_self fun x hx=>exAtm_id x fun a ha=>h a (by rw [withinB_eq,List.any_eq_true.2 ⟨x,hx,ha⟩]; simp)
 have h2 : s.body.map (St.atm g) = s.body:=map_self fun x hx=>i1 x hx fun a ha=>h a (by
  have:=List.any_eq_true.2 ⟨x,hx,ha⟩
  rw [withinB_eq,this]; simp)
 have h3 : s.els.map (St.atm g) = s.els:=map_self fun x hx=>i2 x hx fun a ha=>h a (by
  have:=List.any_eq_true.2 ⟨x,hx,ha⟩
  rw [withinB_eq,this]; simp)
 have h4 : s.arms.map (Ar.atm g) = s.arms:=map_self fun x hx=>by
  unfold Ar.atm
  rw [map_self fun y hy=>i3 x hx y hy fun a ha=>h a (by
   have : s.arms.any (fun x=>x.body.any (withinB a)) = true:=List.any_eq_true.2 ⟨x,hx,List.any_eq_true.2 ⟨y,hy,ha⟩⟩
   rw [withinB_eq,this]; simp)]
 rw [stAtm,h1,h2,h3,h4,h s.pos (by rw [withinB_eq]; simp)]
 cases s; rfl
theorem itAtm_id (x : It) (h : ∀ a,placedIt a x = true → g a = a) : x.atm g = x:=by
 unfold It.atm
 rw [map_self fun y hy=>stAtm_id y fun a ha=>h a (by
   have:=List.any_eq_true.2 ⟨y,hy,ha⟩
   unfold placedIt; rw [this]; simp),exAtm_id x.ret fun a ha=>h a (by unfold placedIt; rw [ha]; simp),h x.pos (by unfold placedIt; simp)]
end
theorem check_placed (p : List It) : ∀ f ∈ checkN p,f.2 = 0 ∨ placedP p f.2 = true:=fun f hf=>by
 obtain ⟨g,hg⟩ : ∃ g : Int → Int,g = fun a=>if a = 0 ∨ placedP p a = true then a else a + 1:=⟨_,rfl⟩
 have h0 : g 0 = 0:=by rw [hg]; simp
 have hid : p.map (It.atm g) = p:=map_self fun x hx=>itAtm_id x fun a ha=>by
  have : placedP p a = true:=List.any_eq_true.2 ⟨x,hx,ha⟩
  rw [hg]; simp [this]
 have he:=checkN_atm g h0 p
 rw [hid] at he
 have hall : ∀ (l m : List Flt),l = m.map (zG g) → l = m → ∀ f ∈ m,zG g f = f:=fun l m e1 e2=>by
  subst e2
  intro f hf
  obtain ⟨i,hi,rfl⟩:=List.getElem_of_mem hf
  have:=congrArg (fun q=>q[i]?) e1
  simp only [List.getElem?_map,List.getElem?_eq_getElem hi,Option.map_some,Option.some.injEq] at this
  exact this.symm
 have hz:=hall _ _ he rfl f hf
 have h2 : g f.2 = f.2:=congrArg Prod.snd hz
 rw [hg] at h2
 simp only at h2
 by_cases hc : f.2 = 0 ∨ placedP p f.2 = true
 ·exact hc
 ·rw [if_neg hc] at h2; omega
theorem check_erase (p : List It) : checkN (p.map (It.atm fun _=>0)) = (checkN p).map fun f=>(f.1,0):=checkN_atm (fun _=>0) rfl p
end Go.Proofs.YtfbpibkpmcceaaaGreatDoor
