/- A part of the proof. The statement is proved in the claim's last text. -/
import Derived.Test.YtlclonljdagpkaaGreatDoorQNtV
import Derived.Test.YtlclonljdagpkaaGreatDoorQNtW
import Derived.Test.YtlclonljdagpkaaGreatDoorQNQn
import Derived.Test.YtlclonljdagpkaaGreatDoorQNPg
import Derived.Test.YtlclonljdagpkaaGreatDoorQNQo
set_option linter.unusedVariables false
set_option linter.unusedSimpArgs false
set_option maxRecDepth 100000
set_option maxHeartbeats 32000000
namespace Go.Proofs.YtlclonljdagpkaaGreatDoor
open Go.RowKit
section
variable (t : ByteArray) (p : List It)
def KpP (σ : Nf) (r : Nf × List Fg) : Prop:=mGet r.1.made t = mGet σ.made t /\ ∀ g ∈ r.2,g.1 ≠ t
def StK (s : St) : Prop:=s.has t = false -> ∀ σ : Nf,KpP t σ (s.nm p σ)
end
section
variable {t : ByteArray} {p : List It}
theorem zRG {m : List Fg} {s : ByteArray} {b : Bool} (h : s ≠ t) : mGet (mPut m s b) t = mGet m t:=by rw [zBK,if_neg (Ne.symm h)]
theorem zKd (pos : Int) : ∀ (l : List ByteArray) (σ : Nf),(∀ s ∈ l,s ≠ t) -> KpP t σ (Nf.mkS l pos σ)
 | [],σ,_=>⟨rfl,fun g hg=>by cases hg⟩
 | s :: l,σ,h=>by
  obtain ⟨h1,h2⟩:=zKd pos l (σ.mk1 s pos) fun y hy=>h y (List.mem_cons_of_mem _ hy)
  refine ⟨h1.trans (zRG (h s (by simp))),fun g hg=>?_⟩
  rcases List.mem_cons.1 (show g ∈ (s,mIs σ.made s) :: (Nf.mkS l pos (σ.mk1 s pos)).2 from hg) with rfl | hg
  .exact h s (by simp)
  .exact h2 g hg
theorem zLl : ∀ (l : List Fg) (σ : Nf),(∀ g ∈ l,g.1 ≠ t) -> mGet (Nf.undo l σ).made t = mGet σ.made t
 | [],σ,_=>rfl
 | g :: l,σ,h=>(zRG (h g (by simp))).trans (zLl l σ fun y hy=>h y (List.mem_cons_of_mem _ hy))
theorem zRH : ∀ (l : List St),(∀ s ∈ l,StK t p s) -> l.any (St.has t) = false -> ∀ σ : Nf,KpP t σ (St.nms p l σ)
 | [],_,_,σ=>by simp only [St.nms]; exact ⟨rfl,fun g hg=>by cases hg⟩
 | s :: l,hs,hh,σ=>by
  rw [List.any_cons,Bool.or_eq_false_iff] at hh
  obtain ⟨a1,a2⟩:=hs s (by simp) hh.1 σ
  obtain ⟨b1,b2⟩:=zRH l (fun y hy=>hs y (List.mem_cons_of_mem _ hy)) hh.2 (s.nm p σ).1
  simp only [St.nms];refine ⟨b1.trans a1,fun g hg=>?_⟩
  rcases List.mem_append.1 hg with h | h
  .exact a2 g h
  .exact b2 g h
theorem zFF {l : List St} (hs : ∀ s ∈ l,StK t p s) (hh : l.any (St.has t) = false) (pos : Int) (names : List ByteArray) (hn : ∀ s ∈ names,s ≠ t) (σ : Nf) : mGet (zy p l pos names σ).made t = mGet σ.made t:=by
 unfold zy
 have a:=zKd pos names σ hn
 have b:=zRH l hs hh (Nf.mkS names pos σ).1
 rw [zLl _ _ a.2,zLl _ _ b.2,b.1,a.1]
theorem zRI (pos : Int) : ∀ (l : List Ar),(∀ a ∈ l,∀ s ∈ a.body,StK t p s) -> l.any (Ar.has t) = false -> ∀ σ : Nf,mGet (l.foldl (fun σ a=>a.nm p pos σ) σ).made t = mGet σ.made t
 | [],_,_,σ=>rfl
 | a :: l,hs,hh,σ=>by
  rw [List.any_cons,Bool.or_eq_false_iff] at hh
  have ha:=hh.1
  unfold Ar.has at ha;rw [Bool.or_eq_false_iff] at ha;rw [List.foldl_cons,zRI pos l (fun b hb=>hs b (List.mem_cons_of_mem _ hb)) hh.2]
  exact zFF (hs a (by simp)) ha.2 pos (oneN a.name) (fun s hs=>by
   unfold oneN at hs;split at hs
   .cases hs
   .rw [List.mem_singleton.1 hs]; exact sNe ha.1) σ
theorem zZ1 : ∀ s : St,StK t p s:=by
 refine St.ind fun s i1 i2 i3 hh σ=>?_
 obtain ⟨op,name,second,names,ty,int,pl,es,b,el,ar,pos⟩:=s
 simp only [St.op,St.name,St.second,St.names,St.type,St.int,St.place,St.exprs,St.body,St.els,St.arms,St.pos] at *;rw [zLh] at hh;simp only [Bool.or_eq_false_iff] at hh
 obtain ⟨⟨⟨h1,h2,h3⟩,h4,h5⟩,h6,h7,h8⟩:=hh
 have n1:=sNe h1
 have n2:=sNe h2
 have n4 : ∀ s ∈ names,s ≠ t:=fun s hs=>sNe (by have:=List.any_eq_false.1 h4 s hs; simpa using this)
 have pair : ∀ {a : Nf},mGet a.made t = mGet σ.made t -> KpP t σ (a,[]):=fun k=>⟨k,fun g hg=>by cases hg⟩
 rw [zJG p]
 by_cases o1 : op = 1
 .simp only [zBq o1]
  exact zKd pos [name] _ fun s hs=>by rw [List.mem_singleton.1 hs]; exact n1
 simp only [zBl o1]
 by_cases o2 : op = 2
 .simp only [zBq o2]; exact zKd pos names _ n4
 simp only [zBl o2]
 by_cases o3 : op = 3
 .simp only [zBq o3]; exact pair rfl
 simp only [zBl o3]
 by_cases o5 : op = 5
 .simp only [zBq o5]; exact pair rfl
 simp only [zBl o5]
 by_cases o12 : op = 12
 .simp only [zBq o12]
  exact zKd pos [name,second] _ fun s hs=>by
   rcases List.mem_cons.1 hs with rfl | hs
   .exact n1
   .rw [List.mem_singleton.1 hs]; exact n2
 simp only [zBl o12]
 by_cases o8 : op = 8
 .simp only [zBq o8]; exact pair (zRI pos ar i3 h6 _)
 simp only [zBl o8]
 by_cases o10 : op = 10
 .simp only [zBq o10]; exact pair rfl
 simp only [zBl o10]
 by_cases o9 : op = 9
 .simp only [zBq o9]
  exact pair (zFF i1 h7 pos [] (fun s hs=>by cases hs) _)
 simp only [zBl o9]
 by_cases o11 : op = 11
 .simp only [zBq o11]
  exact pair (zFF i1 h7 pos [name] (fun s hs=>by rw [List.mem_singleton.1 hs]; exact n1) _)
 simp only [zBl o11];exact pair ((zFF i2 h8 pos [] (fun s hs=>by cases hs) _).trans (zFF i1 h7 pos [] (fun s hs=>by cases hs) _))
end
theorem zRJ : ∀ e : Ex,e.ren id = e:=by
 refine Ex.ind fun e ih=>?_
 rw [zJH]
 have : e.args.map (Ex.ren id) = e.args:=by
  conv=>rhs; rw [<- List.map_id e.args]
  exact List.map_congr_left fun x hx=>ih x hx
 rw [this];cases e; rfl
theorem zWr : ∀ s : St,s.ren id = s:=by
 refine St.ind fun s i1 i2 i3=>?_
 rw [zQ4]
 have e1 : s.exprs.map (Ex.ren id) = s.exprs:=by
  conv=>rhs; rw [<- List.map_id s.exprs]
  exact List.map_congr_left fun x hx=>zRJ x
 have e2 : s.body.map (St.ren id) = s.body:=by
  conv=>rhs; rw [<- List.map_id s.body]
  exact List.map_congr_left fun x hx=>i1 x hx
 have e3 : s.els.map (St.ren id) = s.els:=by
  conv=>rhs; rw [<- List.map_id s.els]
  exact List.map_congr_left fun x hx=>i2 x hx
 have e4 : s.arms.map (Ar.ren id) = s.arms:=by
  conv=>rhs; rw [<- List.map_id s.arms]
  refine List.map_congr_left fun a ha=>?_
  obtain ⟨v,n,b⟩:=a
  have : b.map (St.ren id) = b:=by
   conv=>rhs; rw [<- List.map_id b]
   exact List.map_congr_left fun x hx=>i3 _ ha x hx
  show (⟨v,n,b.map (St.ren id)⟩ : Ar) = ⟨v,n,b⟩
  rw [this]
 have i2 : (if s.op = 2 then s.name else id s.name) = s.name:=by
  by_cases h : s.op = 2
  .rw [if_pos h]
  .rw [if_neg h]; rfl
 have i8 : (if s.op = 8 then s.second else id s.second) = s.second:=by
  by_cases h : s.op = 8
  .rw [if_pos h]
  .rw [if_neg h]; rfl
 rw [e1,e2,e3,e4,i2,i8,List.map_id_fun];cases s;rfl
theorem zTq (l : List St) : l.map (St.ren id) = l:=by
 conv=>rhs; rw [<- List.map_id l]
 exact List.map_congr_left fun x hx=>zWr x
theorem zJL (t : ByteArray) : RenOk id t:=⟨fun _ _ _ _ h=>h,fun _ _ h=>h,rfl⟩
def zTy : Ty:=.mk 0 emS []
def letS : St:=.mk 1 zM emS [] zTy 0 ⟨emS,[]⟩ [.mk 3 0 emS emS ⟨emS,[]⟩ [] 0] [] [] [] 0
def blkS : St:=.mk 13 emS emS [] zTy 0 ⟨emS,[]⟩ [] [letS] [] [] 0
theorem zRK : blkS.whole (39 - 1) = true:=by kernel_rfl
theorem zY0 (p : List It) (σ : Nf) : blkS.nm p σ = (⟨mPut (mPut σ.made zM true) zM (mIs σ.made zM),σ.count + 1,σ.opn,σ.fl ++ zI (mGet σ.made zM).isNone 60 0⟩,[]):=by
 have e6 : sEq emS emS = true:=zAw.2 rfl
 have h1 : ∀ σ : Nf,letS.nm p σ = (σ.mk1 zM 0,[(zM,mIs σ.made zM)]):=fun σ=>by
  unfold letS;rw [zJG,if_pos rfl]
  have : ([Ex.mk 3 0 emS emS ⟨emS,[]⟩ [] 0] : List Ex).flatMap (Ex.nm p σ.made) = []:=by simp [Ex.nm,Ex.nms,zBb,e6,zI]
  rw [this]
  have e : σ.add [] = σ:=by unfold Nf.add; rw [List.append_nil]
  rw [e];rfl
 unfold blkS;rw [zJG];simp only [if_neg (by decide : ¬ (13 : Int) = 1),if_neg (by decide : ¬ (13 : Int) = 2),if_neg (by decide : ¬ (13 : Int) = 3),if_neg (by decide : ¬ (13 : Int) = 5),if_neg (by decide : ¬ (13 : Int) = 12),if_neg (by decide : ¬ (13 : Int) = 8),if_neg (by decide : ¬ (13 : Int) = 10),if_neg (by decide : ¬ (13 : Int) = 9),if_neg (by decide : ¬ (13 : Int) = 11)]
 simp only [zy,Nf.mkS,St.nms,h1,Nf.undo,Nf.put,Nf.mk1,Nf.add,List.flatMap_nil,List.append_nil]
def It.blk (x : It) (r : Ex) : It:=⟨x.kind,x.name,x.fields,x.result,blkS :: x.body,r,x.pos⟩
theorem zM0 : ∀ (l : List ByteArray) (m : List Fg) {t : ByteArray},(∀ s ∈ l,s ≠ t) -> mGet (l.foldl (fun m s=>mPut m s true) m) t = mGet m t
 | [],m,t,_=>rfl
 | s :: l,m,t,h=>by
  rw [List.foldl_cons,zM0 l _ fun y hy=>h y (List.mem_cons_of_mem _ hy)]
  exact zRG (h s (by simp))
theorem zKe {p p' : List It} (hp : SameL p p') {x : It} (h : x.has zM = false) (fl : List Flt) :
  ∃ σ τ : Nf,NfQ id zM 1 σ τ /\ mGet τ.made zM = some false /\ (St.nms p x.body ⟨(x.fields.map Fi.name).foldl (fun m s=>mPut m s true) [],x.fields.length,0,fl⟩).1 = σ /\ (St.nms p' (blkS :: x.body) ⟨(x.fields.map Fi.name).foldl (fun m s=>mPut m s true) [],x.fields.length,0,fl⟩).1 = τ /\
   (St.nms p' (blkS :: x.body) ⟨(x.fields.map Fi.name).foldl (fun m s=>mPut m s true) [],x.fields.length,0,fl⟩).2 = (St.nms p x.body ⟨(x.fields.map Fi.name).foldl (fun m s=>mPut m s true) [],x.fields.length,0,fl⟩).2.map (fgR id) /\ ∀ g ∈ (St.nms p x.body ⟨(x.fields.map Fi.name).foldl (fun m s=>mPut m s true) [],x.fields.length,0,fl⟩).2,g.1 ≠ zM:=by
 unfold It.has at h;simp only [Bool.or_eq_false_iff] at h
 obtain ⟨h1,h2,h3⟩:=h
 have hn : ∀ s ∈ x.fields.map Fi.name,s ≠ zM:=fun s hs=>by
  obtain ⟨y,hy,rfl⟩:=List.mem_map.1 hs
  exact sNe (by have:=List.any_eq_false.1 h1 y hy; simpa using this)
 have hg:=zM0 _ [] hn
 obtain ⟨m,hm⟩ : ∃ m,(x.fields.map Fi.name).foldl (fun m s=>mPut m s true) [] = m:=⟨_,rfl⟩
 rw [hm] at hg ⊢
 have hg' : mGet m zM = none:=hg
 have hb:=zY0 p' ⟨m,x.fields.length,0,fl⟩
 have hq : NfQ id zM 1 ⟨m,x.fields.length,0,fl⟩ (blkS.nm p' ⟨m,x.fields.length,0,fl⟩).1:=by
  rw [hb];refine ⟨fun n hn=>?_,rfl,rfl,?_⟩
  .show mGet (mPut (mPut m zM true) zM _) n = mGet m n
   rw [zBK,if_neg hn,zBK,if_neg hn]
  .show fl ++ zI (mGet m zM).isNone 60 0 = fl
   rw [hg']; simp [zI]
 have hk : mGet (blkS.nm p' ⟨m,x.fields.length,0,fl⟩).1.made zM = some false:=by
  rw [hb]
  show mGet (mPut (mPut m zM true) zM (mIs m zM)) zM = some false
  rw [zBK,if_pos rfl];unfold mIs;rw [hg']; rfl
 have k:=zHN (c:=1) (p:=p) (p':=p') (f:=id) (t:=zM) x.body (fun s _=>zUW (zJL _) hp s) h2 _ _ hq
 rw [zTq] at k
 have kk:=zRH (p:=p') x.body (fun s _=>zZ1 s) h2 (blkS.nm p' ⟨m,x.fields.length,0,fl⟩).1
 refine ⟨_,_,k.1,kk.1.trans hk,rfl,?_,?_,k.2.2⟩
 .simp only [St.nms]
 .simp only [St.nms]
  rw [k.2.1,hb]; rfl
theorem zTr {p p' : List It} (hp : SameL p p') {x : It} (h : x.has zM = false) (k3 : x.kind = 3) : zBJ p' 0 (x.blk x.ret) [] = zBJ p 0 x [] \/ ∃ z,zBJ p' 0 (x.blk x.ret) [] = zBJ p 0 x [] ++ [z]:=by
 have hb : ∀ fl,NfQ id zM 1 (zDE p x fl) (zDE p' (x.blk x.ret) fl):=fun fl=>by
  obtain ⟨σ,τ,q1,_,q2,q3,q4,q5⟩:=zKe hp h fl
  unfold zDE
  show NfQ id zM 1 _ ((fun (r : Nf × List Fg)=>Nf.undo r.2 (r.1.add (x.ret.nm p' r.1.made))) (St.nms p' (blkS :: x.body) ⟨(x.fields.map Fi.name).foldl (fun m s=>mPut m s true) [],x.fields.length,0,fl⟩))
  simp only;rw [q2,q3,q4];refine NfQ.undo (zJL _) _ q5 (q1.add ?_)
  unfold It.has at h;simp only [Bool.or_eq_false_iff] at h
  have:=zQ6 (zJL _) hp q1.md x.ret h.2.2
  rwa [zRJ] at this
 unfold zBJ
 have e1 : (x.blk x.ret).kind = x.kind:=rfl
 have e2 : (x.blk x.ret).fields = x.fields:=rfl
 have e3 : (x.blk x.ret).result = x.result:=rfl
 have e4 : (x.blk x.ret).pos = x.pos:=rfl
 simp only [zEK,Bool.not_false,zDM,List.append_nil,List.nil_append];rw [e1,e2,e3,e4,<- zFZ hp,<- zEm hp,if_pos k3,if_pos k3]
 generalize zAS p x.pos [] x.fields ++ x.result.nm p x.pos = fl
 have hq:=hb fl
 rw [hq.fl,hq.count]
 generalize zDE p x fl = G
 by_cases c1 : G.count + 1 <= 60
 .left
  have : G.count <= 60:=by omega
  simp [c1,this]
 .by_cases c2 : G.count <= 60
  .right
   refine ⟨(4,x.pos),?_⟩;simp [c1,c2,zI]
  .left
   simp [c1,c2]
theorem zRL : ∀ (l : List Fg) (σ : Nf),(Nf.undo l σ).fl = σ.fl
 | [],σ=>rfl
 | g :: l,σ=>zRL l σ
def useQ : Ex:=.mk 4 0 emS emS ⟨zM,[]⟩ [] 7777
theorem zTs {p p' : List It} (hp : SameL p p') {x : It} (h : x.has zM = false) (k3 : x.kind = 3) : (60,7777) ∈ zBJ p' 0 (x.blk useQ) []:=by
 unfold zBJ
 have e1 : (x.blk useQ).kind = x.kind:=rfl
 have e2 : (x.blk useQ).fields = x.fields:=rfl
 simp only [zEK,Bool.not_false,zDM,List.append_nil,List.nil_append];rw [e1,e2,if_pos k3]
 generalize zAS p' _ [] x.fields ++ _ = fl
 obtain ⟨σ,τ,q1,q0,q2,q3,q4,q5⟩:=zKe hp h fl
 have hb : (60,7777) ∈ (zDE p' (x.blk useQ) fl).fl:=by
  unfold zDE
  show (60,7777) ∈ ((fun (r : Nf × List Fg)=>Nf.undo r.2 (r.1.add (useQ.nm p' r.1.made))) (St.nms p' (blkS :: x.body) ⟨(x.fields.map Fi.name).foldl (fun m s=>mPut m s true) [],x.fields.length,0,fl⟩)).fl
  simp only;rw [zRL,q3]
  have e5 : useQ.nm p' τ.made = [(60,7777)]:=by
   have e6 : sEq zM emS = false:=by
    rcases Bool.eq_false_or_eq_true (sEq zM emS) with h | h
    .exact absurd (zAw.1 h) zKb
    .exact h
   have e7 : mIs τ.made zM = false:=by unfold mIs; rw [q0]; rfl
   simp [useQ,Ex.nm,Ex.nms,zBb,e6,e7,zI]
  rw [e5]
  show _ ∈ τ.fl ++ _
  simp
 exact List.mem_append_left _ hb
theorem zKf : useQ.whole 38 = true:=by kernel_rfl
theorem zGJ {x : It} {r : Ex} (h : x.whole 39 = true) (k3 : x.kind = 3) (hr : zA6 r.op = false) (hr2 : r.whole 38 = true) : (x.blk r).whole 39 = true:=by
 unfold It.whole at h ⊢
 have e1 : (x.blk r).kind = x.kind:=rfl
 rw [e1,if_neg (by omega),if_pos k3]
 rw [if_neg (by omega),if_pos k3] at h
 simp only [Bool.and_eq_true] at h ⊢
 obtain ⟨h1,h2,h3,h4,h5,h6⟩:=h
 refine ⟨h1,h2,h3,by show (!zA6 r.op) = true; rw [hr]; rfl,hr2,?_⟩
 show (blkS :: x.body).all _ = true
 rw [List.all_cons,zRK,h6]; rfl
theorem zKg {x : It} (h : x.whole 39 = true) (k3 : x.kind = 3) : zA6 x.ret.op = false /\ x.ret.whole 38 = true:=by
 unfold It.whole at h;rw [if_neg (by omega),if_pos k3] at h
 simp only [Bool.and_eq_true] at h
 obtain ⟨h1,h2,h3,h4,h5,h6⟩:=h
 exact ⟨by simpa using h4,h5⟩
theorem zRM {p : List It} {w : Nat} {x : It} (hx : p[w]? = some x) (k3 : x.kind = 3) (hw : z6 p = true) (hh : x.has zM = false) : z7 (p.set w (x.blk x.ret)) = z7 p \/ (z7 (p.set w (x.blk x.ret))).length = (z7 p).length + 1:=by
 have hr:=zKg (zCv hw hx) k3
 have hwx:=zGJ (zCv hw hx) k3 hr.1 hr.2
 have hk : keyF (x.blk x.ret) = keyF x:=rfl
 obtain ⟨A,C,h1,h2⟩:=zHO hx k3 (x':=x.blk x.ret) rfl rfl rfl hk hw (zCu hw hwx)
 rcases zTr (zFD hx k3 (x':=x.blk x.ret) k3 rfl hk) hh k3 with h | ⟨z,h⟩
 .left; rw [h1,h2,h]
 .right; rw [h1,h2,h]; simp; omega
theorem zRN {p : List It} {w : Nat} {x : It} (hx : p[w]? = some x) (k3 : x.kind = 3) (hw : z6 p = true) (hh : x.has zM = false) : (60,7777) ∈ z7 (p.set w (x.blk useQ)):=by
 have hwx:=zGJ (r:=useQ) (zCv hw hx) k3 (by rfl) zKf
 have hk : keyF (x.blk useQ) = keyF x:=rfl
 obtain ⟨A,C,h1,h2⟩:=zHO hx k3 (x':=x.blk useQ) rfl rfl rfl hk hw (zCu hw hwx)
 rw [h2]
 have:=zTs (zFD hx k3 (x':=x.blk useQ) k3 rfl hk) hh k3
 simp [this]
end Go.Proofs.YtlclonljdagpkaaGreatDoor
namespace Go.Proofs.YtlclonljdagpkaaGreatDoor
open Go.RowKit
attribute [local simp] List.replicate List.range List.range.loop resA zR retA AV.cuts AV.cut AObj.cut trim wkR wkT wkL wkN wkNR wkNL wkM wkMR wkML zAi zAZ zY zAj zAb zQ rowA zf zT List.forall_mem_cons List.contains_cons List.contains_nil List.find? ze zd zS LCp LCl refL
def blkPV : List PV:=[.v (.int .u8 13),.v (.string ⟨#[]⟩),.v (.string ⟨#[]⟩),.v (.slice none 0 0),.v (.int .u8 0),.v (.string ⟨#[]⟩),.v (.slice none 0 0),.v (.int .i64 0),.v (.string ⟨#[]⟩),.v (.slice none 0 0),.v (.slice none 0 0),.sl 15 [[.v (.int .u8 1),.v (.string (⟨#[113,117,105,116,101,95,111,116,104,101,114]⟩ : ByteArray)),.v (.string ⟨#[]⟩),.v (.slice none 0 0),.v (.int .u8 0),.v (.string ⟨#[]⟩),.v (.slice none 0 0),.v (.int .i64 0),.v (.string ⟨#[]⟩),.v (.slice none 0 0),.sl 8 [[.v (.int .u8 3),.v (.int .i64 0),.v (.string ⟨#[]⟩),.v (.string ⟨#[]⟩),.v (.string ⟨#[]⟩),.v (.slice none 0 0),.v (.slice none 0 0),.v (.int .i64 0)]],.v (.slice none 0 0),.v (.slice none 0 0),.v (.slice none 0 0),.v (.int .i64 0)]],.v (.slice none 0 0),.v (.slice none 0 0),.v (.int .i64 0)]
theorem zUY : LeRow blkPV blkS.enc:=by
 show LeRow blkPV [pU 13,pS emS,pS emS,strs [],pU 0,pS emS,.sl 3 [],pI 0,pS emS,strs [],.sl 8 [],.sl 15 [letS.enc],.sl 15 [],.sl 3 [],pI 0]
 have hl : LeRow [.v (.int .u8 1),.v (.string (⟨#[113,117,105,116,101,95,111,116,104,101,114]⟩ : ByteArray)),.v (.string ⟨#[]⟩),.v (.slice none 0 0),.v (.int .u8 0),.v (.string ⟨#[]⟩),.v (.slice none 0 0),.v (.int .i64 0),.v (.string ⟨#[]⟩),.v (.slice none 0 0),.sl 8 [[.v (.int .u8 3),.v (.int .i64 0),.v (.string ⟨#[]⟩),.v (.string ⟨#[]⟩),.v (.string ⟨#[]⟩),.v (.slice none 0 0),.v (.slice none 0 0),.v (.int .i64 0)]],.v (.slice none 0 0),.v (.slice none 0 0),.v (.slice none 0 0),.v (.int .i64 0)] letS.enc:=by
  show LeRow _ [pU 1,pS zM,pS emS,strs [],pU 0,pS emS,.sl 3 [],pI 0,pS emS,strs [],.sl 8 [[pU 3,pI 0,pS emS,pS emS,pS emS,strs [],.sl 8 [],pI 0]],.sl 15 [],.sl 15 [],.sl 3 [],pI 0]
  exact .cons (.refl _) (.cons (.refl _) (.cons (.refl _) (.cons (.nil _) (.cons (.refl _) (.cons (.refl _) (.cons (.nil _) (.cons (.refl _) (.cons (.refl _) (.cons (.nil _) (.cons (.sl (.cons (.cons (.refl _) (.cons (.refl _) (.cons (.refl _) (.cons (.refl _) (.cons (.refl _) (.cons (.nil _) (.cons (.nil _) (.refl _)))))))) (.refl _))) (.cons (.nil _) (.cons (.nil _) (.cons (.nil _) (.refl _))))))))))))))
 exact .cons (.refl _) (.cons (.refl _) (.cons (.refl _) (.cons (.nil _) (.cons (.refl _) (.cons (.refl _) (.cons (.nil _) (.cons (.refl _) (.cons (.refl _) (.cons (.nil _) (.cons (.nil _) (.cons (.sl (.cons hl (.refl _))) (.cons (.nil _) (.cons (.nil _) (.refl _))))))))))))))
theorem zRO (op : Int) (pl : Pl) (h : PlSm pl) (at_ : Int) : ExSm (.mk op 0 emS emS pl [] at_):=.mk _ (show (0 : Nat) <= 20000 by omega) (show (0 : Nat) <= 20000 by omega) h (show (0 : Nat) <= 20000 by omega) fun x hx=>by cases hx
theorem zLm : PlSm ⟨emS,[]⟩:=⟨show (0 : Nat) <= 20000 by omega,show (0 : Nat) <= 20000 by omega,fun s hs=>by cases hs⟩
theorem zUZ : TySm zTy:=.mk _ (show (0 : Nat) <= 20000 by omega) (show (0 : Nat) <= 20000 by omega) fun x hx=>by cases hx
theorem zY1 : StSm letS:=by
 refine .mk _ (by decide) (by decide) ⟨by decide,fun s hs=>by cases hs⟩ zUZ zLm ⟨by decide,fun e he=>?_⟩ (by decide) (by decide) (by decide) (fun x hx=>by cases hx) (fun x hx=>by cases hx) (fun x hx=>by cases hx) (fun x hx=>by cases hx)
 rw [List.mem_singleton.1 he];exact zRO 3 _ zLm 0
theorem zY2 : StSm blkS:=by
 refine .mk _ (by decide) (by decide) ⟨by decide,fun s hs=>by cases hs⟩ zUZ zLm ⟨by decide,fun e he=>by cases he⟩ (by decide) (by decide) (by decide) (fun x hx=>?_) (fun x hx=>by cases hx) (fun x hx=>by cases hx) (fun x hx=>by cases hx)
 rw [List.mem_singleton.1 hx];exact zY1
theorem zY3 : ExSm useQ:=zRO 4 ⟨zM,[]⟩ ⟨show zM.size <= 20000 by decide,show (0 : Nat) <= 20000 by omega,fun s hs=>by cases hs⟩ 7777
theorem zY4 (hAw : ∀ S : ASt,ADet Tryz.prog 18 [] S (B true) S) (p : List It) (hg : great p = false) (hw : z6 p = true) (i : Nat) (hi : i < p.length) (x : It) (hx : p[i] = x) (h3 : x.kind = 3) (S : ASt) :
  ADet Tryz.prog 6 [.agg [.p (prog p)],I i] S (B true) S:=by
 have hsm:=zNR hg
 have gC:=fun S=>zMJ S p
 have wC:=fun S=>zCm p hsm S
 rw [hg] at gC;rw [hw] at wC
 have hlp : p.length <= 20000:=hsm.1
 have hi' : (i : Int) < (p.length : Int):=by omega
 have hi2 : ¬ (p.length : Int) <= (i : Int):=by omega
 have hi3 : ¬ (i : Int) < 0:=by omega
 have hxs : ItSm x:=hx ▸ hsm.2 _ (List.getElem_mem hi)
 obtain ⟨_,hfs,hty,hst,hex⟩:=hxs
 have hxi : p[i]? = some x:=by rw [List.getElem?_eq_getElem hi,hx]
 have hfl : x.fields.length <= maxLen:=by have:=hfs.1; unfold maxLen; omega
 have hhas:=hasC zM x.body hst
 have huse:=zWp zM x.ret hex
 have cC:=fun R=>zY7 p hsm [.cells [.p (prog p)] 24,.cells (itU x) 42] R
 unfold CH at hhas;unfold zM at hhas huse;refine ADet.intro mixed Tryz.call6 Tryz.func6 rfl ?_;simp [Tryz.ntmps6];refine ⟨_,_,hAw _,?_⟩;simp;refine ⟨_,_,gC _,?_⟩;simp;refine ⟨_,_,wC _,?_⟩;simp [hi,hi',hi2,hi3,prog,hx,It.enc,h3];refine zE (fun q : Nat=>q <= x.fields.length /\ ∀ j (hj : j < x.fields.length),j < q -> sEq x.fields[j].name zM = false) (fun q=>([.any,I i,.ptr 0 0 0,.any,B false,.ptr 0 1 0,Sg zM,I q] ++ List.replicate 134 .any)) (fun _=>[.cells [.p (prog p)] 24,.cells (itU x) 42] :: S) (fun q=>x.fields.length - q) 0 ⟨Nat.zero_le _,fun j hj h=>by omega⟩ ?_ ?_ ?_
 .simp [zM]
 .simp [prog,itU,h3]
 rintro q ⟨hq,hno⟩
 by_cases hlt : q < x.fields.length
 .have hlt' : (q : Int) < (x.fields.length : Int):=by omega
  have hwq:=zD hlt hfl
  have hmu : x.fields.length - (q + 1) < x.fields.length - q:=by omega
  have hn2:=zDO (f:=fun y : Fi=>sEq y.name zM) hno hlt
  generalize hy : x.fields[q] = y at *
  cases hc : sEq y.name zM with
  | true =>
   simp [hlt,hlt',hy,Fi.enc,hc]
  | false =>
   simp [hlt,hlt',hy,Fi.enc,hc];exact ⟨q + 1,⟨hlt,hn2 hc⟩,hmu,hwq⟩
 have hlt' : ¬ (q : Int) < (x.fields.length : Int):=by omega
 have hf0 : (x.fields.any fun y=>sEq y.name zM) = false:=zDN (f:=fun y : Fi=>sEq y.name zM) fun j hj _=>hno j hj (by omega)
 simp [hlt,hlt',zM];refine ⟨_,_,hhas _,?_⟩
 cases hb : x.body.any (St.has zM) with
 | true =>
  unfold zM at hb
  simp [hb]
 | false =>
 have hb2:=hb
 unfold zM at hb2;simp [hb2];refine ⟨_,_,huse _,?_⟩
 cases hu : x.ret.has zM with
 | true =>
  unfold zM at hu
  simp [hu]
 | false =>
 have hu2:=hu
 unfold zM at hu2
 have hh : x.has zM = false:=by unfold It.has; rw [hf0,hb,hu]; rfl
 have hDl : (List.replicate 11 AObj.dead ++ prP 13 p).length = 12 + 5 * p.length:=by rw [List.length_append,zLs,List.length_replicate]; omega
 have hD:=zYy p
 simp only [List.length_cons,List.length_nil] at cC;rw [show 0 + 1 + 1 + 11 = 13 from rfl] at cC
 have hpart:=zCx 13 p i hi
 have hrl:=zHX 13 p
 rw [hx] at hpart
 generalize hrc : zA9 13 p = rc at *
 generalize List.replicate 11 AObj.dead ++ prP 13 p = D at *
 have hg11 : ∀ B,(D ++ B)[11]? = some (.row 42 16 p.length rc):=fun B=>by rw [List.getElem?_append_left (by omega)]; exact hD.rw
 have hs11 : ∀ B o,(D ++ B).set 11 o = D.set 11 o ++ B:=fun B o=>by rw [List.set_append_left _ _ (by omega)]
 have hgl : ∀ B,(D ++ B)[12 + 5 * p.length]? = B[0]?:=fun B=>by rw [List.getElem?_append_right (by omega),hDl,Nat.sub_self]
 have hgl3 : ∀ B k,(D ++ B)[12 + 5 * p.length + k]? = B[k]?:=fun B k=>by rw [List.getElem?_append_right (by omega),hDl,Nat.add_sub_cancel_left]
 have hcl6 : i * 16 + 6 + 1 <= rc.length:=by omega
 have hc6 : rc[i * 16 + 6]? = some (.p (.sl 15 (x.body.map St.enc))):=zRB hpart rfl
 have hb1 : 1 + x.body.length <= 4294967296:=by have:=hst.1; omega
 simp [hu2];refine ⟨_,_,cC _,?_⟩;simp [hDl,itU,hi,hg11,hs11,hgl,hgl3,hc6,hb1,hcl6];refine zA [(2,1)] (by kernel_rfl) (by kernel_rfl) ?_
 simp
 have hbk : blkPV = [.v (.int .u8 13),.v (.string ⟨#[]⟩),.v (.string ⟨#[]⟩),.v (.slice none 0 0),.v (.int .u8 0),.v (.string ⟨#[]⟩),.v (.slice none 0 0),.v (.int .i64 0),.v (.string ⟨#[]⟩),.v (.slice none 0 0),.v (.slice none 0 0),.sl 15 [[.v (.int .u8 1),.v (.string (⟨#[113,117,105,116,101,95,111,116,104,101,114]⟩ : ByteArray)),.v (.string ⟨#[]⟩),.v (.slice none 0 0),.v (.int .u8 0),.v (.string ⟨#[]⟩),.v (.slice none 0 0),.v (.int .i64 0),.v (.string ⟨#[]⟩),.v (.slice none 0 0),.sl 8 [[.v (.int .u8 3),.v (.int .i64 0),.v (.string ⟨#[]⟩),.v (.string ⟨#[]⟩),.v (.string ⟨#[]⟩),.v (.slice none 0 0),.v (.slice none 0 0),.v (.int .i64 0)]],.v (.slice none 0 0),.v (.slice none 0 0),.v (.slice none 0 0),.v (.int .i64 0)]],.v (.slice none 0 0),.v (.slice none 0 0),.v (.int .i64 0)]:=rfl
 rw [<- hbk];clear hbk
 generalize hA : (AObj.cells [.p (prog p)] 24 :: AObj.cells [U x.kind,Sg x.name,.p (.sl 4 (x.fields.map Fi.enc)),U x.result.kind,Sg x.result.name,.p (.sl 3 (x.result.args.map Ty.enc)),.p (.sl 15 (x.body.map St.enc)),U x.ret.op,I x.ret.int,Sg x.ret.name,Sg x.ret.second,Sg x.ret.place.name,.p (strs x.ret.place.path),.p (.sl 8 (x.ret.args.map Ex.enc)),I x.ret.pos,I x.pos] 42 :: (D.set 11 (.row 42 16 p.length (rc.set (i * 16 + 6) (.osl 15 (blkPV :: x.body.map St.enc) 0 (12 + 5 * p.length + 3 + 1 + 1)))) ++ [AObj.cells [.rsl 0 13 p.length 16] 24,.tok 40 8 1,.tok 45 15 1,.tok 45 15 (1 + x.body.length)]) : List AObj) = A
 have hDs : (D.set 11 (.row 42 16 p.length (rc.set (i * 16 + 6) (.osl 15 (blkPV :: x.body.map St.enc) 0 (12 + 5 * p.length + 3 + 1 + 1))))).length = 12 + 5 * p.length:=by rw [List.length_set,hDl]
 have hAl : A.length = 18 + 5 * p.length:=by rw [<- hA]; simp only [List.length_cons,List.length_append,hDs,List.length_nil]; omega
 have hA13 : ∀ B,(A ++ B)[13]? = some (.row 42 16 p.length (rc.set (i * 16 + 6) (.osl 15 (blkPV :: x.body.map St.enc) 0 (12 + 5 * p.length + 3 + 1 + 1)))):=fun B=>by
  rw [List.getElem?_append_left (by omega),<- hA,List.getElem?_cons_succ,List.getElem?_cons_succ,List.getElem?_append_left (by omega),List.getElem?_set_self (by omega)]
 have hAq : ∀ B,(A ++ B)[12 + 5 * p.length + 1 + 1]? = some (.cells [.rsl 0 13 p.length 16] 24):=fun B=>by
  rw [List.getElem?_append_left (by omega),<- hA,List.getElem?_cons_succ,List.getElem?_cons_succ,List.getElem?_append_right (by omega),hDs,Nat.sub_self]; rfl
 have hAf : ∀ B j (h : j < p.length),j ≠ i -> (A ++ B)[13 + 5 * j + 4]? = some (.row 55 4 p[j].fields.length (rowC Fi.enc p[j].fields)):=fun B j h _=>by
  have:=hD.fi j h
  rw [show 13 - 2 + (5 * j + 4) = 11 + 5 * j + 4 by omega] at this
  rw [List.getElem?_append_left (by omega),<- hA,show 13 + 5 * j + 4 = (11 + 5 * j + 4) + 1 + 1 by omega,List.getElem?_cons_succ,List.getElem?_cons_succ,List.getElem?_append_left (by omega),List.getElem?_set_ne (by omega),this]
  simp [List.getD,h]
 have hAfi : ∀ B,(A ++ B)[13 + 5 * i + 4]? = some (.row 55 4 x.fields.length (rowC Fi.enc x.fields)):=fun B=>by
  have:=hD.fi i hi
  rw [show 13 - 2 + (5 * i + 4) = 11 + 5 * i + 4 by omega] at this
  rw [List.getElem?_append_left (by omega),<- hA,show 13 + 5 * i + 4 = (11 + 5 * i + 4) + 1 + 1 by omega,List.getElem?_cons_succ,List.getElem?_cons_succ,List.getElem?_append_left (by omega),List.getElem?_set_ne (by omega),this]
  simp [List.getD,hi,hx]
 have hAk : wkL A A:=by
  rw [<- hA];refine zLk fun o ho=>?_
  simp only [List.mem_cons,List.mem_append,List.not_mem_nil,or_false] at ho
  rcases ho with rfl | rfl | ho | rfl | rfl | rfl | rfl
  .exact ⟨⟨rfl,zL _⟩,trivial⟩
  .exact ⟨⟨rfl,zL _⟩,trivial⟩
  .rcases List.mem_or_eq_of_mem_set ho with h | rfl
   .exact zIr (hD.keep o h (14 + 5 * p.length) (by omega))
   .exact ⟨⟨⟨rfl,rfl,rfl⟩,zL _⟩,trivial⟩
  .exact ⟨⟨rfl,zL _⟩,trivial⟩
  .simp [wkL]
  .simp [wkL]
  .simp [wkL]
 have hpartR:=zCx 13 p
 rw [hrc] at hpartR
 have hrl16 : rc.length = 16 * p.length:=hrl
 clear hA hg11 hs11 hgl hgl3 hD hDl hDs
 have hC:=fun (L : List AObj) hL R=>zI3 p hsm (Nat.le_trans (zLJ hg) (by omega)) hw L hL R
 have hxw:=zCv hw hxi
 have hrw:=zKg hxw h3
 have hbl : x.body.length <= 7000:=by
  have a:=zYz (List.mem_of_getElem? hxi)
  have b:=zLJ hg
  have c:=zWq x.body
  unfold It.nd at a;unfold It.nd at b;omega
 have hndx : ∀ r : Ex,(x.blk r).nd + x.ret.nd = x.nd + 9 + r.nd:=fun r=>by
  have hb : blkS.nd = 9:=by decide
  show 3 + ((x.fields.map Fi.nd).sum + (x.result.nd + (((blkS :: x.body).map St.nd).sum + r.nd))) + x.ret.nd = 3 + ((x.fields.map Fi.nd).sum + (x.result.nd + ((x.body.map St.nd).sum + x.ret.nd))) + 9 + r.nd
  rw [List.map_cons,List.sum_cons,hb];omega
 have hsx : ∀ r,ExSm r -> ItSm (x.blk r):=fun r hr=>by
  obtain ⟨k1,k2,k3,k4,k5⟩:=(hx ▸ hsm.2 _ (List.getElem_mem hi) : ItSm x)
  refine ⟨k1,k2,k3,⟨by show x.body.length + 1 <= 20000; omega,fun s hs=>?_⟩,hr⟩
  rcases List.mem_cons.1 (show s ∈ blkS :: x.body from hs) with rfl | h
  .exact zY2
  .exact k4.2 s h
 have hnds:=fun r=>zRE p i x (x.blk r) hxi
 have hnd:=zLJ hg
 have hle:=fun (q : List It)=>(z7 q).length
 have hq1:=zRM hxi h3 hw hh
 have hq2:=zRN hxi h3 hw hh
 have hw1 : z6 (p.set i (x.blk x.ret)) = true:=zCu hw (zGJ hxw h3 hrw.1 hrw.2)
 have hw2 : z6 (p.set i (x.blk useQ)) = true:=zCu hw (zGJ hxw h3 (by rfl) zKf)
 have hn1 : ((p.set i (x.blk x.ret)).map It.nd).sum <= 30000:=by have:=hnds x.ret; have:=hndx x.ret; omega
 have hn2 : ((p.set i (x.blk useQ)).map It.nd).sum <= 30000:=by
  have:=hnds useQ
  have:=hndx useQ
  have : useQ.nd = 1:=by decide
  omega
 have len1 : ∀ B : List AObj,LentL ((A ++ B) :: S) [.agg [.rsl 0 13 p.length 16]] [.agg [.p (.sl 16 ((p.map It.enc).set i [pU x.kind,pS x.name,.sl 4 (x.fields.map Fi.enc),pU x.result.kind,pS x.result.name,.sl 3 (x.result.args.map Ty.enc),.sl 15 (blkPV :: x.body.map St.enc),pU x.ret.op,pI x.ret.int,pS x.ret.name,pS x.ret.second,pS x.ret.place.name,strs x.ret.place.path,.sl 8 (x.ret.args.map Ex.enc),pI x.ret.pos,pI x.pos]))]]:=fun B=>by
  refine zLj hi _ _ (hA13 B) (fun r h hr=>by rw [zw rc _ (by omega) hr]; exact hpartR r h) (zx rc _ (by omega)) (hAf B) rfl ?_
  rw [hpart]
  have l1 : Lent ((A ++ B) :: S) (.rsl 0 (13 + 5 * i + 4) x.fields.length 4) (.sl 4 (x.fields.map Fi.enc)):=Lent.rowP (show get2 ((A ++ B) :: S) 0 _ = _ from hAfi B) rfl fun _=>rfl
  exact .cons (.p _) (.cons (.p _) (.cons l1 (.cons (.p _) (.cons (.p _) (.cons (.p _) (.cons (.osl _ _ _ _) (.cons (.p _) (.cons (.p _) (.cons (.p _) (.cons (.p _) (.cons (.p _) (.cons (.p _) (.cons (.p _) (.cons (.p _) (.cons (.p _) .nil)))))))))))))))
 have le1 : LeRows ((p.map It.enc).set i [pU x.kind,pS x.name,.sl 4 (x.fields.map Fi.enc),pU x.result.kind,pS x.result.name,.sl 3 (x.result.args.map Ty.enc),.sl 15 (blkPV :: x.body.map St.enc),pU x.ret.op,pI x.ret.int,pS x.ret.name,pS x.ret.second,pS x.ret.place.name,strs x.ret.place.path,.sl 8 (x.ret.args.map Ex.enc),pI x.ret.pos,pI x.pos]) ((p.set i (x.blk x.ret)).map It.enc):=by
  rw [List.map_set];refine zFb ?_ _ _;exact .cons (.refl _) (.cons (.refl _) (.cons (.refl _) (.cons (.refl _) (.cons (.refl _) (.cons (.refl _) (.cons (.sl (.cons zUY (.refl _))) (.refl _)))))))
 have hQ1:=fun B=>zHU _ (zRD hsm (hsx x.ret hex)) hn1 hw1 (len1 B) le1
 refine ⟨_,_,hC A hAk _,?_⟩;simp [hAq];refine ⟨_,_,hQ1 _,?_⟩
 have hAq0 : A[12 + 5 * p.length + 1 + 1]? = some (.cells [.rsl 0 13 p.length 16] 24):=by have:=hAq []; rwa [List.append_nil] at this
 have hAB : ∀ B k,(A ++ B)[18 + 5 * p.length + k]? = B[k]?:=fun B k=>by rw [List.getElem?_append_right (by omega),hAl,Nat.add_sub_cancel_left]
 have hAs : ∀ B r,(A ++ B).set 13 r = A.set 13 r ++ B:=fun B r=>List.set_append_left _ _ (by omega)
 have hF0 : (z7 p).length <= 30000:=by
  have h1:=zB9 p p 0 []
  have h3:=zq (zFt p zFu) 62 0
  unfold z7;rw [if_pos hw,List.length_append];simp only [List.length_nil] at h1;omega
 simp [hAl,hAq,hAq0]
 rcases hq1.symm with h | h
 .rw [if_pos (by omega),h,IntWalk.i64_in _ (by omega)]
  rfl
 rw [h,if_neg (by omega)]
 generalize z7 p = F at *
 have hsf:=zHK F (by omega) [[]]
 refine ⟨_,_,ADet.lend rfl hsf (.cons (.p (zGH (by show (A ++ _)[_]? = _; rw [hAB]; rfl))) (.cons (.p (zGH (by show (A ++ _)[_]? = _; rw [Nat.add_assoc,hAB]; rfl))) .nil)),?_⟩
 have hcl7 : i * 16 + 7 + 8 <= rc.length:=by omega
 simp [hAq,hA13,hAs,hi,hcl7]
 generalize hr3 : (((((((((rc.set (i * 16 + 6) (.osl 15 (blkPV :: x.body.map St.enc) 0 (12 + 5 * p.length + 3 + 1 + 1))).set (i * 16 + 7) (.p (.v (.int .u8 4)))).set (i * 16 + 7 + 1) (.p (.v (.int .i64 0)))).set (i * 16 + 7 + 1 + 1) (.p (.v (.string ⟨#[]⟩)))).set (i * 16 + 7 + 1 + 1 + 1) (.p (.v (.string ⟨#[]⟩)))).set (i * 16 + 7 + 1 + 1 + 1 + 1) (.p (.v (.string (⟨#[113,117,105,116,101,95,111,116,104,101,114]⟩ : ByteArray))))).set (i * 16 + 7 + 1 + 1 + 1 + 1 + 1) (.p (.v (.slice none 0 0)))).set (i * 16 + 7 + 1 + 1 + 1 + 1 + 1 + 1) (.p (.v (.slice none 0 0)))).set (i * 16 + 7 + 1 + 1 + 1 + 1 + 1 + 1 + 1) (.p (.v (.int .i64 7777))) : List AV) = rc3
 simp only [Nat.add_assoc,Nat.reduceAdd] at hr3
 have hp3 : (rc3.drop (i * 16)).take 16 = [U x.kind,Sg x.name,.rsl 0 (13 + 5 * i + 4) x.fields.length 4,U x.result.kind,Sg x.result.name,.p (.sl 3 (x.result.args.map Ty.enc)),.osl 15 (blkPV :: x.body.map St.enc) 0 (12 + 5 * p.length + 3 + 1 + 1),.p (pU 4),.p (pI 0),.p (pS emS),.p (pS emS),.p (pS zM),.p (.v (.slice none 0 0)),.p (.v (.slice none 0 0)),.p (pI 7777),I x.pos]:=by
  rw [<- hr3,zx _ _ (by omega),zx _ _ (by omega),zx _ _ (by omega),zx _ _ (by omega),zx _ _ (by omega),zx _ _ (by omega),zx _ _ (by omega),zx _ _ (by omega),zx _ _ (by omega),hpart]
  rfl
 have hpn3 : ∀ r (h : r < p.length),r ≠ i -> (rc3.drop (r * 16)).take 16 = itRF p[r] (13 + 5 * r + 4):=fun r h hr=>by
  rw [<- hr3,zw _ _ (by omega) hr,zw _ _ (by omega) hr,zw _ _ (by omega) hr,zw _ _ (by omega) hr,zw _ _ (by omega) hr,zw _ _ (by omega) hr,zw _ _ (by omega) hr,zw _ _ (by omega) hr,zw _ _ (by omega) hr]
  exact hpartR r h
 clear hr3
 have hBl : (A.set 13 (.row 42 16 p.length rc3)).length = 18 + 5 * p.length:=by rw [List.length_set,hAl]
 have hB13 : ∀ B,(A.set 13 (.row 42 16 p.length rc3) ++ B)[13]? = some (.row 42 16 p.length rc3):=fun B=>by rw [List.getElem?_append_left (by omega),List.getElem?_set_self (by omega)]
 have hBq : ∀ B,(A.set 13 (.row 42 16 p.length rc3) ++ B)[12 + 5 * p.length + 1 + 1]? = some (.cells [.rsl 0 13 p.length 16] 24):=fun B=>by rw [List.getElem?_append_left (by omega),List.getElem?_set_ne (by omega)]; exact hAq0
 have hBf : ∀ B j (h : j < p.length),j ≠ i -> (A.set 13 (.row 42 16 p.length rc3) ++ B)[13 + 5 * j + 4]? = some (.row 55 4 p[j].fields.length (rowC Fi.enc p[j].fields)):=fun B j h hj=>by
  have:=hAf B j h hj
  rw [List.getElem?_append_left (by omega)] at this
  rw [List.getElem?_append_left (by omega),List.getElem?_set_ne (by omega),this]
 have hBfi : ∀ B,(A.set 13 (.row 42 16 p.length rc3) ++ B)[13 + 5 * i + 4]? = some (.row 55 4 x.fields.length (rowC Fi.enc x.fields)):=fun B=>by
  have:=hAfi B
  rw [List.getElem?_append_left (by omega)] at this
  rw [List.getElem?_append_left (by omega),List.getElem?_set_ne (by omega),this]
 generalize A.set 13 (.row 42 16 p.length rc3) = A3 at *
 have len2 : ∀ B : List AObj,LentL ((A3 ++ B) :: S) [.agg [.rsl 0 13 p.length 16]] [.agg [.p (.sl 16 ((p.map It.enc).set i [pU x.kind,pS x.name,.sl 4 (x.fields.map Fi.enc),pU x.result.kind,pS x.result.name,.sl 3 (x.result.args.map Ty.enc),.sl 15 (blkPV :: x.body.map St.enc),pU 4,pI 0,pS emS,pS emS,pS zM,.v (.slice none 0 0),.v (.slice none 0 0),pI 7777,pI x.pos]))]]:=fun B=>by
  refine zLj hi _ _ (hB13 B) hpn3 hp3 (hBf B) rfl ?_
  have l1 : Lent ((A3 ++ B) :: S) (.rsl 0 (13 + 5 * i + 4) x.fields.length 4) (.sl 4 (x.fields.map Fi.enc)):=Lent.rowP (show get2 ((A3 ++ B) :: S) 0 _ = _ from hBfi B) rfl fun _=>rfl
  exact .cons (.p _) (.cons (.p _) (.cons l1 (.cons (.p _) (.cons (.p _) (.cons (.p _) (.cons (.osl _ _ _ _) (.cons (.p _) (.cons (.p _) (.cons (.p _) (.cons (.p _) (.cons (.p _) (.cons (.p _) (.cons (.p _) (.cons (.p _) (.cons (.p _) .nil)))))))))))))))
 have le2 : LeRows ((p.map It.enc).set i [pU x.kind,pS x.name,.sl 4 (x.fields.map Fi.enc),pU x.result.kind,pS x.result.name,.sl 3 (x.result.args.map Ty.enc),.sl 15 (blkPV :: x.body.map St.enc),pU 4,pI 0,pS emS,pS emS,pS zM,.v (.slice none 0 0),.v (.slice none 0 0),pI 7777,pI x.pos]) ((p.set i (x.blk useQ)).map It.enc):=by
  rw [List.map_set];refine zFb ?_ _ _
  show LeRow _ [pU x.kind,pS x.name,.sl 4 (x.fields.map Fi.enc),pU x.result.kind,pS x.result.name,.sl 3 (x.result.args.map Ty.enc),.sl 15 (blkS.enc :: x.body.map St.enc),pU 4,pI 0,pS emS,pS emS,pS zM,strs [],.sl 8 [],pI 7777,pI x.pos]
  exact .cons (.refl _) (.cons (.refl _) (.cons (.refl _) (.cons (.refl _) (.cons (.refl _) (.cons (.refl _) (.cons (.sl (.cons zUY (.refl _))) (.cons (.refl _) (.cons (.refl _) (.cons (.refl _) (.cons (.refl _) (.cons (.refl _) (.cons (.nil _) (.cons (.nil _) (.refl _))))))))))))))
 have hQ2:=fun B=>zHU _ (zRD hsm (hsx useQ zY3)) hn2 hw2 (len2 B) le2
 have hG0 : (z7 (p.set i (x.blk useQ))).length <= 100000:=by
  have h1:=zB9 (p.set i (x.blk useQ)) (p.set i (x.blk useQ)) 0 []
  have h3:=zq (zFt (p.set i (x.blk useQ)) zFu) 62 0
  unfold z7;rw [if_pos hw2,List.length_append];simp only [List.length_nil] at h1;omega
 generalize z7 (p.set i (x.blk useQ)) = G at *
 simp [hBq];refine ⟨_,_,hQ2 _,?_⟩
 have hGl : G.length <= maxLen:=by unfold maxLen; omega
 simp [hBl]
 have hXl : (A3 ++ [AObj.dead,.dead,.dead,.dead,rwO F,.dead,.dead,.dead,.dead,rwO F,.dead,.dead,.dead,.dead]).length = 32 + 5 * p.length:=by simp only [List.length_append,hBl,List.length_cons,List.length_nil]; omega
 have hwX:=zKc (rwO G) ⟨⟨⟨rfl,rfl,rfl⟩,zL _⟩,trivial⟩ (A3 ++ [AObj.dead,.dead,.dead,.dead,rwO F,.dead,.dead,.dead,.dead,rwO F,.dead,.dead,.dead,.dead])
 rw [hXl,List.append_assoc] at hwX
 have hM32 : (List.replicate (32 + 5 * p.length) AObj.dead ++ [rwO G])[18 + 5 * p.length + 10 + 4]? = some (.row 48 2 G.length (rowC fltE G)):=by
  rw [List.getElem?_append_right (by rw [List.length_replicate]; omega),List.length_replicate,show 18 + 5 * p.length + 10 + 4 - (32 + 5 * p.length) = 0 by omega]; rfl
 have hMl : (List.replicate (32 + 5 * p.length) AObj.dead ++ [rwO G]).length = 33 + 5 * p.length:=by rw [List.length_append,List.length_replicate]; simp; omega
 have hMk : ∀ o ∈ (List.replicate (32 + 5 * p.length) AObj.dead ++ [rwO G]),∀ m,wkL [o.cut m] [o]:=fun o ho m=>by
  rcases List.mem_append.1 ho with h | h
  .rw [List.eq_of_mem_replicate h]; trivial
  .rw [List.mem_singleton.1 h,zWj]; exact ⟨⟨⟨rfl,rfl,rfl⟩,zL _⟩,trivial⟩
 generalize List.replicate (32 + 5 * p.length) AObj.dead ++ [rwO G] = M at *
 obtain ⟨isF,hisF⟩ : ∃ isF : Flt -> Bool,isF = fun f=>f.1 == 60 && f.2 == 7777:=⟨_,rfl⟩
 have hany : G.any isF = true:=List.any_eq_true.2 ⟨_,hq2,by rw [hisF]; rfl⟩
 refine zE (fun q : Nat=>q <= G.length) (fun q=>([.any,.any,.any,.any,B false,.any,.any,.any,.any,.any,.any,.any,B ((G.take q).any isF),.rsl 0 (18 + 5 * p.length + 10 + 4) G.length 2,I q] ++ List.replicate 127 .any)) (fun _=>M :: S) (fun q=>G.length - q) 0 (Nat.zero_le _) ?_ ?_ ?_
 .simp
 .exact ⟨hwX,rfl⟩
 clear hlt hlt' hq hno;intro q hq
 have hMne : M ≠ []:=fun h=>by rw [h,List.length_nil] at hMl; omega
 have hA1:=(List.getElem?_eq_some_iff.1 hM32).1
 by_cases hlt : q < G.length
 .have hlt' : (q : Int) < (G.length : Int):=by omega
  have hwq:=zD hlt hGl
  have hmu : G.length - (q + 1) < G.length - q:=by omega
  have hpt:=zRF G q hlt
  have hr1:=zYt G
  have hb2 : q * 2 + 2 <= G.length * 2:=by omega
  have hnx : (G.take (q + 1)).any isF = ((G.take q).any isF || isF G[q]):=by rw [List.take_succ_eq_append_getElem hlt,List.any_append]; simp
  have hself:=zIs (A:=M) (S:=S) rfl fun o ho=>hMk o ho M.length
  generalize hf : G[q] = f at *
  have hfe : isF f = (f.1 == 60 && f.2 == 7777):=by rw [hisF]
  have heq:=zHL f.1 f.2 60 7777
  generalize rowC fltE G = rg at *
  cases hb : (G.take q).any isF with
  | true =>
   rw [hb,Bool.true_or] at hnx;simp [hlt,hlt',-trim,-wkT]
   obtain ⟨⟨a,b⟩,k1,k2⟩:=List.any_eq_true.1 hnx
   exact ⟨q + 1,hlt,hmu,⟨⟨a,b,k1,k2⟩,hA1,hwq⟩,hself⟩
  | false =>
   rw [hb,Bool.false_or,hfe] at hnx;simp [hlt,hlt',hM32,hpt,hr1,hb2,heq,-trim,-wkT];exact ⟨q + 1,hlt,hmu,⟨hnx.symm,hA1,hwq⟩,hself⟩
 .have hlt' : ¬ (q : Int) < (G.length : Int):=by omega
  have hall : (G.take q).any isF = true:=by rw [List.take_of_length_le (by omega)]; exact hany
  simp [hlt,hlt',hall]
theorem zLn (p : List It) (w : Int) (S : ASt) : ADet Tryz.prog 6 [.agg [.p (prog p)],I w] S (B true) S:=by
 have gC:=fun S=>zMJ S p
 cases hg : great p with
 | true =>
  rw [hg] at gC;refine ADet.intro mixed Tryz.call6 Tryz.func6 rfl ?_;simp [Tryz.ntmps6];refine ⟨_,_,zBU _,?_⟩;simp;refine ⟨_,_,gC _,?_⟩
  simp
 | false =>
 have hsm:=zNR hg
 have wC:=fun S=>zCm p hsm S
 cases hw : z6 p with
 | false =>
  rw [hg] at gC;rw [hw] at wC;refine ADet.intro mixed Tryz.call6 Tryz.func6 rfl ?_;simp [Tryz.ntmps6];refine ⟨_,_,zBU _,?_⟩;simp;refine ⟨_,_,gC _,?_⟩;simp;refine ⟨_,_,wC _,?_⟩
  simp
 | true =>
 by_cases hneg : w < 0
 .rw [hg] at gC
  rw [hw] at wC;refine ADet.intro mixed Tryz.call6 Tryz.func6 rfl ?_;simp [Tryz.ntmps6];refine ⟨_,_,zBU _,?_⟩;simp;refine ⟨_,_,gC _,?_⟩;simp;refine ⟨_,_,wC _,?_⟩;simp [hneg]
 obtain ⟨i,rfl⟩ : ∃ i : Nat,w = (i : Int):=⟨w.toNat,by omega⟩
 by_cases hi : i < p.length
 .by_cases h3 : p[i].kind = 3
  .exact zY4 zBU p hg hw i hi _ rfl h3 S
  .rw [hg] at gC
   rw [hw] at wC
   have hi' : (i : Int) < (p.length : Int):=by omega
   have hi2 : ¬ (p.length : Int) <= (i : Int):=by omega
   have h3' : (p[i].kind != 3) = true:=by simpa using h3
   generalize hx : p[i] = x at *
   refine ADet.intro mixed Tryz.call6 Tryz.func6 rfl ?_;simp [Tryz.ntmps6];refine ⟨_,_,zBU _,?_⟩;simp;refine ⟨_,_,gC _,?_⟩;simp;refine ⟨_,_,wC _,?_⟩;simp [hi,hi',hi2,hneg,prog,hx,It.enc,h3,h3']
 .rw [hg] at gC
  rw [hw] at wC
  have hi2 : (p.length : Int) <= (i : Int):=by omega
  refine ADet.intro mixed Tryz.call6 Tryz.func6 rfl ?_;simp [Tryz.ntmps6];refine ⟨_,_,zBU _,?_⟩;simp;refine ⟨_,_,gC _,?_⟩;simp;refine ⟨_,_,wC _,?_⟩;simp [hi,hi2,hneg,prog]
end Go.Proofs.YtlclonljdagpkaaGreatDoor
