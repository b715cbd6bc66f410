/- A part of the proof. The statement is proved in the claim's last text. -/
import Derived.Test.YtlclonljdagpkaaGreatDoorQNAp
import Derived.Test.YtlclonljdagpkaaGreatDoorQMNp
set_option linter.unusedVariables false
set_option linter.unusedSimpArgs false
set_option maxRecDepth 100000
set_option maxHeartbeats 32000000
namespace Go.Proofs.YtlclonljdagpkaaGreatDoor
open Go.RowKit
def keyF (x : It) : Nat × Int:=(x.fields.length,x.result.kind)
structure SameL (p p' : List It) : Prop where
 fn : ∀ s,(fnIt p s).map keyF = (fnIt p' s).map keyF
 it : ∀ s,zAM p s = zAM p' s
section
variable {p p' : List It} (h : SameL p p')
include h
theorem zKW (m : List Fg) (op : Int) (nm sc : ByteArray) (pl : Pl) (n : Nat) : zBb p m op nm sc pl n = zBb p' m op nm sc pl n:=by
 unfold zBb;rw [h.it]
 have e : (match fnIt p nm with | some x=>decide (x.fields.length = n) | none=>false) = (match fnIt p' nm with | some x=>decide (x.fields.length = n) | none=>false):=by
  have hk:=h.fn nm
  cases h1 : fnIt p nm with
  | none =>
   cases h2 : fnIt p' nm with
   | none=>rfl
   | some y=>rw [h1,h2] at hk; cases hk
  | some x =>
   cases h2 : fnIt p' nm with
   | none=>rw [h1,h2] at hk; cases hk
   | some y =>
    rw [h1,h2] at hk
    have hk' : keyF x = keyF y:=Option.some.inj hk
    have : x.fields.length = y.fields.length:=congrArg Prod.fst hk'
    simp only [this]
 by_cases o18 : op = 18
 .rw [if_pos o18,if_pos o18]; exact e
 .rw [if_neg o18,if_neg o18]
theorem zTh (s : ByteArray) : zFt p s = zFt p' s:=by
 unfold zFt
 have hk:=h.fn s
 cases h1 : fnIt p s with
 | none =>
  cases h2 : fnIt p' s with
  | none=>rfl
  | some y=>rw [h1,h2] at hk; cases hk
 | some x =>
  cases h2 : fnIt p' s with
  | none=>rw [h1,h2] at hk; cases hk
  | some y =>
   rw [h1,h2] at hk
   have hk' : keyF x = keyF y:=Option.some.inj hk
   have e1 : x.fields.length = y.fields.length:=congrArg Prod.fst hk'
   have e2 : x.result.kind = y.result.kind:=congrArg Prod.snd hk'
   simp only [e1,e2]
theorem zQ0 (m : List Fg) : ∀ e : Ex,e.nm p m = e.nm p' m:=by
 refine Ex.ind fun e ih=>?_
 have hl : ∀ l : List Ex,(∀ x ∈ l,x.nm p m = x.nm p' m) -> l.flatMap (Ex.nm p m) = l.flatMap (Ex.nm p' m):=fun l hl=>by
  induction l with
  | nil=>rfl
  | cons x l ih=>rw [List.flatMap_cons,List.flatMap_cons,hl x (by simp),ih fun y hy=>hl y (List.mem_cons_of_mem _ hy)]
 rw [exNm,exNm p' m e,zKW h,hl _ ih]
theorem zTi (m : List Fg) (l : List Ex) : l.flatMap (Ex.nm p m) = l.flatMap (Ex.nm p' m):=by
 induction l with
 | nil=>rfl
 | cons x l ih=>rw [List.flatMap_cons,List.flatMap_cons,zQ0 h,ih]
theorem zEm (pos : Int) : ∀ t : Ty,t.nm p pos = t.nm p' pos:=by
 refine Ty.ind fun t ih=>?_
 have hl : ∀ l : List Ty,(∀ x ∈ l,x.nm p pos = x.nm p' pos) -> l.flatMap (Ty.nm p pos) = l.flatMap (Ty.nm p' pos):=fun l hl=>by
  induction l with
  | nil=>rfl
  | cons x l ih=>rw [List.flatMap_cons,List.flatMap_cons,hl x (by simp),ih fun y hy=>hl y (List.mem_cons_of_mem _ hy)]
 rw [tyNm,tyNm p' pos t,h.it,hl _ ih]
theorem zMt (k : Int) (s : ByteArray) : zGx p k s = zGx p' k s:=by unfold zGx; rw [h.it]
theorem zMu (s : ByteArray) (n : Nat) : zIu p s n = zIu p' s n:=by unfold zIu; rw [zMt h]
theorem zKX (s : ByteArray) (l : List Fg) : zDn p s l = zDn p' s l:=by unfold zDn; rw [zMt h]
end
section
variable (p p' : List It)
def StCg (s : St) : Prop:=∀ σ : Nf,s.nm p σ = s.nm p' σ
theorem zGI : ∀ (l : List St),(∀ s ∈ l,StCg p p' s) -> ∀ σ : Nf,St.nms p l σ = St.nms p' l σ
 | [],h,σ=>by simp only [St.nms]
 | s :: l,h,σ=>by
  simp only [St.nms];rw [h s (by simp) σ,zGI l (fun y hy=>h y (List.mem_cons_of_mem _ hy))]
theorem zHM {l : List St} (h : ∀ s ∈ l,StCg p p' s) (pos : Int) (names : List ByteArray) (σ : Nf) : zy p l pos names σ = zy p' l pos names σ:=by
 unfold zy;rw [zGI p p' l h]
theorem zQ1 {l : List St} (h : ∀ s ∈ l,StCg p p' s) (pos : Int) (names : List ByteArray) (fl : List Flt) : zBQ p l pos names fl = zBQ p' l pos names fl:=by
 unfold zBQ;rw [zGI p p' l h]
theorem zQ2 (pos : Int) : ∀ (l : List Ar),(∀ a ∈ l,∀ s ∈ a.body,StCg p p' s) -> ∀ σ : Nf,l.foldl (fun σ a=>a.nm p pos σ) σ = l.foldl (fun σ a=>a.nm p' pos σ) σ
 | [],h,σ=>rfl
 | a :: l,h,σ=>by
  simp only [List.foldl_cons]
  have e : a.nm p pos σ = a.nm p' pos σ:=zHM p p' (h a (by simp)) pos (oneN a.name) σ
  rw [e];exact zQ2 pos l (fun b hb=>h b (List.mem_cons_of_mem _ hb)) _
end
theorem zWl {p p' : List It} (h : SameL p p') : ∀ s : St,StCg p p' s:=by
 refine St.ind fun s i1 i2 i3 σ=>?_
 obtain ⟨op,name,second,names,ty,int,pl,es,b,el,ar,pos⟩:=s
 simp only [St.op,St.name,St.second,St.names,St.type,St.int,St.place,St.exprs,St.body,St.els,St.arms,St.pos] at *;rw [zJG p,zJG p'];simp only [zTi h,zMu h,zKX h,zEm h,zQ2 p p' pos ar i3,zQ1 p p' i1,zHM p p' i1,zHM p p' i2]
theorem zFZ {p p' : List It} (h : SameL p p') (pos : Int) : ∀ (l : List Fi) (met : List ByteArray),zAS p pos met l = zAS p' pos met l
 | [],_=>rfl
 | f :: l,met=>by
  unfold zAS;rw [zEm h,zFZ h pos l]
theorem zTj {p p' : List It} (h : SameL p p') (x : It) (fl : List Flt) : zDE p x fl = zDE p' x fl:=by
 unfold zDE;rw [zGI p p' x.body fun s _=>zWl h s]
 simp only [zQ0 h]
theorem zMv {p p' : List It} (h : SameL p p') (x : It) : zBJ p 0 x [] = zBJ p' 0 x []:=by
 unfold zBJ
 have e : ∀ p,zAO p 0 x = false:=fun p=>by unfold zAO; simp
 rw [e,e,zFZ h,zEm h];simp only [zTj h]
end Go.Proofs.YtlclonljdagpkaaGreatDoor
namespace Go.Proofs.YtlclonljdagpkaaGreatDoor
open Go.RowKit
theorem zDM (e a : Int) : zI true e a = []:=rfl
structure MonoL (p p' : List It) : Prop where
 fn : ∀ s x,fnIt p s = some x -> fnIt p' s = some x
 it : ∀ s x,zAM p s = some x -> zAM p' s = some x
structure NfR (σ τ : Nf) : Prop where
 made : σ.made = τ.made
 count : σ.count = τ.count
 opn : σ.opn = τ.opn
 fl : σ.fl = [] -> τ.fl = []
theorem NfR.add {σ τ : Nf} (h : NfR σ τ) {l l' : List Flt} (hl : l = [] -> l' = []) : NfR (σ.add l) (τ.add l') :=
 ⟨h.made,h.count,h.opn,fun e=>by
  obtain ⟨e1,e2⟩:=List.append_eq_nil_iff.1 (show σ.fl ++ l = [] from e)
  show τ.fl ++ l' = []
  rw [h.fl e1,hl e2]; rfl⟩
theorem NfR.mk1 {σ τ : Nf} (h : NfR σ τ) (s : ByteArray) (pos : Int) : NfR (σ.mk1 s pos) (τ.mk1 s pos):=by
 unfold Nf.mk1;refine ⟨by simp only [h.made],by simp only [h.count],h.opn,fun e=>?_⟩
 simp only at e ⊢
 obtain ⟨e1,e2⟩:=List.append_eq_nil_iff.1 e
 rw [h.fl e1,<- h.made,e2]; rfl
theorem NfR.mkS (pos : Int) : ∀ (l : List ByteArray) {σ τ : Nf},NfR σ τ -> NfR (Nf.mkS l pos σ).1 (Nf.mkS l pos τ).1 /\ (Nf.mkS l pos σ).2 = (Nf.mkS l pos τ).2
 | [],σ,τ,h=>⟨h,rfl⟩
 | s :: l,σ,τ,h=>by
  obtain ⟨h1,h2⟩:=NfR.mkS pos l (h.mk1 s pos)
  exact ⟨h1,by simp only [Nf.mkS,h2,h.made]⟩
theorem NfR.undo : ∀ (l : List Fg) {σ τ : Nf},NfR σ τ -> NfR (Nf.undo l σ) (Nf.undo l τ)
 | [],σ,τ,h=>h
 | g :: l,σ,τ,h=>by
  have h1:=NfR.undo l h
  exact ⟨by simp only [Nf.undo,Nf.put,h1.made],h1.count,h1.opn,h1.fl⟩
section
variable {p p' : List It} (h : MonoL p p')
include h
omit h in
end
section
variable (p p' : List It)
def StMo (s : St) : Prop:=∀ σ τ : Nf,NfR σ τ -> NfR (s.nm p σ).1 (s.nm p' τ).1 /\ (s.nm p σ).2 = (s.nm p' τ).2
end
theorem zEK (p : List It) (x : It) : zAO p 0 x = false:=by unfold zAO; simp
theorem zOX (p : List It) (q : Nat) (x : It) (fl : List Flt) : zBJ p q x fl = fl ++ (zI (!zAO p q x) 60 x.pos ++ zBJ p 0 x []):=by
 have e : zBJ p q x fl = zBJ p 0 x ((fl ++ zI (!zAO p q x) 60 x.pos) ++ []):=by
  unfold zBJ;simp only [zEK,Bool.not_false,zDM,List.append_nil]
 rw [e,zRa,List.append_assoc]
def zaA (y x : It) : Bool:=(decide (y.kind = 3) == decide (x.kind = 3)) && sEq y.name x.name
def zM : ByteArray:=(⟨#[113,117,105,116,101,95,111,116,104,101,114]⟩ : ByteArray)
def qoIt : It:=⟨3,zM,[],.mk 3 emS [],[],.mk 3 0 emS emS ⟨emS,[]⟩ [] 0,0⟩
end Go.Proofs.YtlclonljdagpkaaGreatDoor
namespace Go.Proofs.YtlclonljdagpkaaGreatDoor
open Go.RowKit
def Pl.ren (f : ByteArray -> ByteArray) (x : Pl) : Pl:=⟨f x.name,x.path⟩
mutual
def Ex.ren (f : ByteArray -> ByteArray) : Ex -> Ex
 | .mk op i n s p l a=>.mk op i n s (p.ren f) (Ex.rens f l) a
def Ex.rens (f : ByteArray -> ByteArray) : List Ex -> List Ex
 | []=>[]
 | x :: l=>x.ren f :: Ex.rens f l
end
theorem zYu (f : ByteArray -> ByteArray) (l : List Ex) : Ex.rens f l = l.map (Ex.ren f):=by
 induction l with
 | nil=>rfl
 | cons x l ih=>simp [Ex.rens,ih]
theorem zJH (f : ByteArray -> ByteArray) (e : Ex) : e.ren f = .mk e.op e.int e.name e.second (e.place.ren f) (e.args.map (Ex.ren f)) e.pos:=by
 cases e; simp only [Ex.ren,zYu]; rfl
mutual
def St.ren (f : ByteArray -> ByteArray) : St -> St
 | .mk op n s ns t i p es b e l a=>.mk op (if op = 2 then n else f n) (if op = 8 then s else f s) (ns.map f) t i (p.ren f) (es.map (Ex.ren f)) (St.rens f b) (St.rens f e) (Ar.rens f l) a
def St.rens (f : ByteArray -> ByteArray) : List St -> List St
 | []=>[]
 | x :: l=>x.ren f :: St.rens f l
def Ar.rens (f : ByteArray -> ByteArray) : List (ArOf St) -> List (ArOf St)
 | []=>[]
 | ⟨v,n,b⟩ :: l=>⟨v,f n,St.rens f b⟩ :: Ar.rens f l
end
theorem zUU (f : ByteArray -> ByteArray) (l : List St) : St.rens f l = l.map (St.ren f):=by
 induction l with
 | nil=>rfl
 | cons x l ih=>simp [St.rens,ih]
def Ar.ren (f : ByteArray -> ByteArray) (a : Ar) : Ar:=⟨a.variant,f a.name,a.body.map (St.ren f)⟩
theorem zYv (f : ByteArray -> ByteArray) (l : List Ar) : Ar.rens f l = l.map (Ar.ren f):=by
 induction l with
 | nil=>rfl
 | cons x l ih=>obtain ⟨v,n,b⟩:=x; simp [Ar.rens,ih,Ar.ren,zUU]
theorem zQ3 (f : ByteArray -> ByteArray) (op : Int) (name second : ByteArray) (names : List ByteArray) (ty : Ty) (int : Int) (pl : Pl) (es : List Ex) (b el : List St) (ar : List Ar) (pos : Int) : (St.mk op name second names ty int pl es b el ar pos).ren f = .mk op (if op = 2 then name else f name) (if op = 8 then second else f second) (names.map f) ty int (pl.ren f) (es.map (Ex.ren f)) (b.map (St.ren f)) (el.map (St.ren f)) (ar.map (Ar.ren f)) pos:=by
 simp only [St.ren,zUU,zYv]
theorem zQ4 (f : ByteArray -> ByteArray) (s : St) : s.ren f = .mk s.op (if s.op = 2 then s.name else f s.name) (if s.op = 8 then s.second else f s.second) (s.names.map f) s.type s.int (s.place.ren f) (s.exprs.map (Ex.ren f)) (s.body.map (St.ren f)) (s.els.map (St.ren f)) (s.arms.map (Ar.ren f)) s.pos:=by
 cases s; exact zQ3 _ _ _ _ _ _ _ _ _ _ _ _ _
mutual
def Ex.has (t : ByteArray) : Ex -> Bool
 | .mk _ _ _ _ p l _=>sEq p.name t || Ex.hass t l
def Ex.hass (t : ByteArray) : List Ex -> Bool
 | []=>false
 | x :: l=>x.has t || Ex.hass t l
end
theorem zYw (t : ByteArray) (l : List Ex) : Ex.hass t l = l.any (Ex.has t):=by
 induction l with
 | nil=>rfl
 | cons x l ih=>simp [Ex.hass,ih]
theorem zTk (t : ByteArray) (e : Ex) : e.has t = (sEq e.place.name t || e.args.any (Ex.has t)):=by
 cases e; simp only [Ex.has,zYw]; rfl
mutual
def St.has (t : ByteArray) : St -> Bool
 | .mk _ n s ns _ _ p es b e l _=>((sEq n t || (sEq s t || sEq p.name t)) || (ns.any (fun x=>sEq x t) || es.any (Ex.has t))) || (Ar.hass t l || (St.hass t b || St.hass t e))
def St.hass (t : ByteArray) : List St -> Bool
 | []=>false
 | x :: l=>x.has t || St.hass t l
def Ar.hass (t : ByteArray) : List (ArOf St) -> Bool
 | []=>false
 | ⟨_,n,b⟩ :: l=>(sEq n t || St.hass t b) || Ar.hass t l
end
theorem zUV (t : ByteArray) (l : List St) : St.hass t l = l.any (St.has t):=by
 induction l with
 | nil=>rfl
 | cons x l ih=>simp [St.hass,ih]
def Ar.has (t : ByteArray) (a : Ar) : Bool:=sEq a.name t || a.body.any (St.has t)
theorem zYx (t : ByteArray) (l : List Ar) : Ar.hass t l = l.any (Ar.has t):=by
 induction l with
 | nil=>rfl
 | cons x l ih=>obtain ⟨v,n,b⟩:=x; simp [Ar.hass,ih,Ar.has,zUV]
theorem zLh (t : ByteArray) (op : Int) (name second : ByteArray) (names : List ByteArray) (ty : Ty) (int : Int) (pl : Pl) (es : List Ex) (b el : List St) (ar : List Ar) (pos : Int) : (St.mk op name second names ty int pl es b el ar pos).has t = (((sEq name t || (sEq second t || sEq pl.name t)) || (names.any (fun x=>sEq x t) || es.any (Ex.has t))) || (ar.any (Ar.has t) || (b.any (St.has t) || el.any (St.has t)))):=by
 simp only [St.has,zUV,zYx]
theorem zZz (t : ByteArray) (s : St) : s.has t = (((sEq s.name t || (sEq s.second t || sEq s.place.name t)) || (s.names.any (fun x=>sEq x t) || s.exprs.any (Ex.has t))) || (s.arms.any (Ar.has t) || (s.body.any (St.has t) || s.els.any (St.has t)))):=by
 cases s; exact zLh _ _ _ _ _ _ _ _ _ _ _ _ _
theorem sNe {a b : ByteArray} (h : sEq a b = false) : a ≠ b:=fun e=>by rw [zAw.2 e] at h; cases h
structure RenOk (f : ByteArray -> ByteArray) (t : ByteArray) : Prop where
 inj : ∀ a b,a ≠ t -> b ≠ t -> f a = f b -> a = b
 em : ∀ a,a ≠ t -> f a = emS -> a = emS
 em0 : f emS = emS
theorem RenOk.isEm {f : ByteArray -> ByteArray} {t : ByteArray} (h : RenOk f t) {a : ByteArray} (ha : a ≠ t) : sEq (f a) emS = sEq a emS:=by
 rw [Bool.eq_iff_iff,zAw,zAw];exact ⟨h.em a ha,fun e=>by rw [e,h.em0]⟩
section
variable (f : ByteArray -> ByteArray) (t : ByteArray)
structure NfQ (c : Nat) (σ τ : Nf) : Prop where
 md : ∀ n,n ≠ t -> mGet τ.made (f n) = mGet σ.made n
 count : τ.count = σ.count + c
 opn : τ.opn = σ.opn
 fl : τ.fl = σ.fl
def fgR (g : Fg) : Fg:=(f g.1,g.2)
end
section
variable {f : ByteArray -> ByteArray} {t : ByteArray} (hf : RenOk f t)
theorem NfQ.is {c : Nat} {σ τ : Nf} (h : NfQ f t c σ τ) {n : ByteArray} (hn : n ≠ t) : mIs τ.made (f n) = mIs σ.made n:=by unfold mIs; rw [h.md n hn]
theorem NfQ.add {c : Nat} {σ τ : Nf} (h : NfQ f t c σ τ) {l l' : List Flt} (hl : l' = l) : NfQ f t c (σ.add l) (τ.add l') :=
 ⟨h.md,h.count,h.opn,by show τ.fl ++ l' = σ.fl ++ l; rw [h.fl,hl]⟩
include hf
theorem NfQ.put {c : Nat} {σ τ : Nf} (h : NfQ f t c σ τ) {g : Fg} (hg : g.1 ≠ t) : NfQ f t c (σ.put g) (τ.put (fgR f g)) :=
 ⟨fun n hn=>by
  show mGet (mPut τ.made (f g.1) g.2) (f n) = mGet (mPut σ.made g.1 g.2) n
  rw [zBK,zBK,h.md n hn]
  by_cases e : n = g.1
  .rw [if_pos e,if_pos (by rw [e])]
  .rw [if_neg e,if_neg fun k=>e (hf.inj _ _ hn hg k)],h.count,h.opn,h.fl⟩
theorem NfQ.mk1 {c : Nat} {σ τ : Nf} (h : NfQ f t c σ τ) {s : ByteArray} (hs : s ≠ t) (pos : Int) : NfQ f t c (σ.mk1 s pos) (τ.mk1 (f s) pos) :=
 ⟨(NfQ.put hf h (g:=(s,true)) hs).md,by show τ.count + 1 = σ.count + 1 + c; rw [h.count]; omega,h.opn,by show τ.fl ++ _ = σ.fl ++ _; rw [h.fl,h.md s hs]⟩
def NfP (f : ByteArray -> ByteArray) (t : ByteArray) (c : Nat) (a b : Nf × List Fg) : Prop:=NfQ f t c a.1 b.1 /\ b.2 = a.2.map (fgR f) /\ ∀ g ∈ a.2,g.1 ≠ t
theorem NfQ.mkS (pos : Int) {c : Nat} : ∀ (l : List ByteArray) {σ τ : Nf},(∀ s ∈ l,s ≠ t) -> NfQ f t c σ τ -> NfP f t c (Nf.mkS l pos σ) (Nf.mkS (l.map f) pos τ)
 | [],σ,τ,_,h=>⟨h,rfl,fun g hg=>by cases hg⟩
 | s :: l,σ,τ,hl,h=>by
  have hs:=hl s (by simp)
  obtain ⟨h1,h2,h3⟩:=NfQ.mkS pos l (fun y hy=>hl y (List.mem_cons_of_mem _ hy)) (NfQ.mk1 hf h hs pos)
  refine ⟨h1,?_,fun g hg=>?_⟩
  .simp only [Nf.mkS,List.map_cons,h2,h.is hs,fgR]
  .rcases List.mem_cons.1 (show g ∈ (s,mIs σ.made s) :: (Nf.mkS l pos (σ.mk1 s pos)).2 from hg) with rfl | hg
   .exact hs
   .exact h3 g hg
theorem NfQ.undo {c : Nat} : ∀ (l : List Fg) {σ τ : Nf},(∀ g ∈ l,g.1 ≠ t) -> NfQ f t c σ τ -> NfQ f t c (Nf.undo l σ) (Nf.undo (l.map (fgR f)) τ)
 | [],σ,τ,_,h=>h
 | g :: l,σ,τ,hl,h=>NfQ.put hf (NfQ.undo l (fun y hy=>hl y (List.mem_cons_of_mem _ hy)) h) (hl g (by simp))
theorem NfP.undo {c : Nat} {a b : Nf × List Fg} (h : NfP f t c a b) : NfQ f t c (Nf.undo a.2 a.1) (Nf.undo b.2 b.1):=by
 rw [h.2.1];exact NfQ.undo hf a.2 h.2.2 h.1
section
variable {p p' : List It} (hp : SameL p p')
include hp
theorem zQ5 {m m' : List Fg} (hm : ∀ n,n ≠ t -> mGet m' (f n) = mGet m n) (op : Int) (nm sc : ByteArray) (pl : Pl) (n : Nat) (hn : pl.name ≠ t) : zBb p' m' op nm sc (pl.ren f) n = zBb p m op nm sc pl n:=by
 rw [zKW hp m];unfold zBb
 have e1 : (pl.ren f).path = pl.path:=rfl
 have e2 : (pl.ren f).name = f pl.name:=rfl
 rw [e1,e2,hf.isEm hn];unfold mIs;rw [hm _ hn]
theorem zQ6 {m m' : List Fg} (hm : ∀ n,n ≠ t -> mGet m' (f n) = mGet m n) : ∀ e : Ex,e.has t = false -> (e.ren f).nm p' m' = e.nm p m:=by
 refine Ex.ind fun e ih he=>?_
 rw [zTk,Bool.or_eq_false_iff,List.any_eq_false] at he
 obtain ⟨h1,h2⟩:=he
 have hl : ∀ l : List Ex,(∀ x ∈ l,(x.ren f).nm p' m' = x.nm p m) -> (l.map (Ex.ren f)).flatMap (Ex.nm p' m') = l.flatMap (Ex.nm p m):=fun l hl=>by
  induction l with
  | nil=>rfl
  | cons x l ih=>rw [List.map_cons,List.flatMap_cons,List.flatMap_cons,hl x (by simp),ih fun y hy=>hl y (List.mem_cons_of_mem _ hy)]
 rw [exNm,exNm p m e,zJH]
 obtain ⟨op,int,name,second,pl,args,pos⟩:=e
 simp only [Ex.op,Ex.int,Ex.name,Ex.second,Ex.place,Ex.args,Ex.pos] at *;rw [List.length_map,zQ5 hf hp hm op name second pl args.length (sNe h1),hl args fun x hx=>ih x hx (by simpa using h2 x hx)]
theorem zWm {m m' : List Fg} (hm : ∀ n,n ≠ t -> mGet m' (f n) = mGet m n) (l : List Ex) (h : l.any (Ex.has t) = false) : (l.map (Ex.ren f)).flatMap (Ex.nm p' m') = l.flatMap (Ex.nm p m):=by
 rw [List.any_eq_false] at h
 induction l with
 | nil=>rfl
 | cons x l ih =>
  rw [List.map_cons,List.flatMap_cons,List.flatMap_cons,zQ6 hf hp hm x (by simpa using h x (by simp)),ih fun y hy=>h y (List.mem_cons_of_mem _ hy)]
end
end
section
variable (f : ByteArray -> ByteArray) (t : ByteArray) (p p' : List It)
def StQ (s : St) : Prop:=s.has t = false -> ∀ (c : Nat) (σ τ : Nf),NfQ f t c σ τ -> NfP f t c (s.nm p σ) ((s.ren f).nm p' τ)
end
section
variable {f : ByteArray -> ByteArray} {t : ByteArray} (hf : RenOk f t) {p p' : List It}
theorem zHN {c : Nat} : ∀ (l : List St),(∀ s ∈ l,StQ f t p p' s) -> l.any (St.has t) = false -> ∀ (σ τ : Nf),NfQ f t c σ τ -> NfP f t c (St.nms p l σ) (St.nms p' (l.map (St.ren f)) τ)
 | [],_,_,σ,τ,h=>by simp only [St.nms,List.map_nil]; exact ⟨h,rfl,fun g hg=>by cases hg⟩
 | s :: l,hs,hh,σ,τ,h=>by
  rw [List.any_cons,Bool.or_eq_false_iff] at hh
  obtain ⟨a1,a2,a3⟩:=hs s (by simp) hh.1 c σ τ h
  obtain ⟨b1,b2,b3⟩:=zHN (c:=c) l (fun y hy=>hs y (List.mem_cons_of_mem _ hy)) hh.2 _ _ a1
  simp only [St.nms,List.map_cons];refine ⟨b1,?_,fun g hg=>?_⟩
  .show _ ++ _ = (_ ++ _ : List Fg).map _
   rw [List.map_append,a2,b2]
  .rcases List.mem_append.1 hg with h | h
   .exact a3 g h
   .exact b3 g h
include hf
theorem zDv {c : Nat} {l : List St} (hs : ∀ s ∈ l,StQ f t p p' s) (hh : l.any (St.has t) = false) (pos : Int) (names : List ByteArray) (hn : ∀ s ∈ names,s ≠ t) {σ τ : Nf} (h : NfQ f t c σ τ) : NfQ f t c (zy p l pos names σ) (zy p' (l.map (St.ren f)) pos (names.map f) τ):=by
 unfold zy
 have a:=NfQ.mkS hf pos names hn h
 have b:=zHN l hs hh _ _ a.1
 have d:=b.undo hf
 rw [a.2.1];exact NfQ.undo hf _ a.2.2 d
theorem zQ7 {l : List St} (hs : ∀ s ∈ l,StQ f t p p' s) (hh : l.any (St.has t) = false) (pos : Int) (names : List ByteArray) (hn : ∀ s ∈ names,s ≠ t) {fl fl' : List Flt} (h : fl' = fl) : NfQ f t 0 (zBQ p l pos names fl) (zBQ p' (l.map (St.ren f)) pos (names.map f) fl'):=by
 unfold zBQ
 have a:=NfQ.mkS hf pos names hn (c:=0) (σ:=⟨[],0,0,fl⟩) (τ:=⟨[],0,0,fl'⟩) ⟨fun n _=>rfl,rfl,rfl,h⟩
 exact (zHN l hs hh _ _ a.1).undo hf
theorem zTl {n : ByteArray} (hn : n ≠ t) : oneN (f n) = (oneN n).map f:=by
 unfold oneN;rw [hf.isEm hn];split <;> rfl
omit hf in
theorem zWn {n : ByteArray} (hn : n ≠ t) : ∀ s ∈ oneN n,s ≠ t:=fun s hs=>by
 unfold oneN at hs;split at hs
 .cases hs
 .rw [List.mem_singleton.1 hs]; exact hn
theorem zMw {c : Nat} (pos : Int) : ∀ (l : List Ar),(∀ a ∈ l,∀ s ∈ a.body,StQ f t p p' s) -> l.any (Ar.has t) = false -> ∀ (σ τ : Nf),NfQ f t c σ τ -> NfQ f t c (l.foldl (fun σ a=>a.nm p pos σ) σ) ((l.map (Ar.ren f)).foldl (fun σ a=>a.nm p' pos σ) τ)
 | [],_,_,σ,τ,h=>h
 | a :: l,hs,hh,σ,τ,h=>by
  rw [List.any_cons,Bool.or_eq_false_iff] at hh
  have ha:=hh.1
  unfold Ar.has at ha;rw [Bool.or_eq_false_iff] at ha;simp only [List.foldl_cons,List.map_cons]
  have k:=zDv hf (hs a (by simp)) ha.2 pos (oneN a.name) (zWn (sNe ha.1)) h
  rw [<- zTl hf (sNe ha.1)] at k;exact zMw pos l (fun b hb=>hs b (List.mem_cons_of_mem _ hb)) hh.2 _ _ k
theorem zTm {l : List Ar} (hh : l.any (Ar.has t) = false) : (l.map (Ar.ren f)).map armF = l.map armF:=by
 rw [List.map_map];refine List.map_congr_left fun a ha=>?_
 have h:=List.any_eq_false.1 hh a ha
 unfold Ar.has at h;simp only [Bool.not_eq_true,Bool.or_eq_false_iff] at h
 show (a.variant,!sEq (f a.name) emS) = (a.variant,!sEq a.name emS)
 rw [hf.isEm (sNe h.1)]
theorem zUW (hp : SameL p p') : ∀ s : St,StQ f t p p' s:=by
 refine St.ind fun s i1 i2 i3 hh c σ τ h=>?_
 obtain ⟨op,name,second,names,ty,int,pl,es,b,el,ar,pos⟩:=s
 simp only [St.op,St.name,St.second,St.names,St.type,St.int,St.place,St.exprs,St.body,St.els,St.arms,St.pos] at *;rw [zLh] at hh;simp only [Bool.or_eq_false_iff] at hh
 obtain ⟨⟨⟨h1,h2,h3⟩,h4,h5⟩,h6,h7,h8⟩:=hh
 have n1:=sNe h1
 have n2:=sNe h2
 have n3:=sNe h3
 have n4 : ∀ s ∈ names,s ≠ t:=fun s hs=>sNe (by have:=List.any_eq_false.1 h4 s hs; simpa using this)
 have hE:=zWm hf hp h.md es h5
 have kE : NfQ f t c (σ.add (es.flatMap (Ex.nm p σ.made))) (τ.add ((es.map (Ex.ren f)).flatMap (Ex.nm p' τ.made))):=h.add hE
 rw [zQ3,zJG p,zJG p']
 by_cases o1 : op = 1
 .simp only [zBq o1]
  rw [zBl (by omega : ¬ op = 2)]
  exact NfQ.mkS hf pos [name] (fun s hs=>by rw [List.mem_singleton.1 hs]; exact n1) kE
 simp only [zBl o1]
 by_cases o2 : op = 2
 .simp only [zBq o2,List.length_map]
  exact NfQ.mkS hf pos names n4 (kE.add (by rw [zMu hp]))
 simp only [zBl o2]
 have pair : ∀ {a b : Nf},NfQ f t c a b -> NfP f t c (a,[]) (b,[]):=fun k=>⟨k,rfl,fun g hg=>by cases hg⟩
 have e2 : (pl.ren f).name = f pl.name:=rfl
 by_cases o3 : op = 3
 .simp only [zBq o3,e2]
  exact pair (kE.add (by rw [h.is n3]))
 simp only [zBl o3]
 by_cases o5 : op = 5
 .simp only [zBq o5]
  exact pair (kE.add (by rw [h.is n1]))
 simp only [zBl o5]
 by_cases o12 : op = 12
 .simp only [zBq o12]
  rw [zBl (by omega : ¬ op = 8)]
  exact NfQ.mkS hf pos [name,second] (fun s hs=>by
   rcases List.mem_cons.1 hs with rfl | hs
   .exact n1
   .rw [List.mem_singleton.1 hs]; exact n2) (kE.add (by rw [zEm hp]))
 simp only [zBl o12]
 by_cases o8 : op = 8
 .simp only [zBq o8]
  exact pair (zMw hf pos ar i3 h6 _ _ (kE.add (by rw [h.is n1,zKX hp,zTm hf h6])))
 simp only [zBl o8]
 by_cases o10 : op = 10
 .simp only [zBq o10]
  have hs:=zQ7 hf i1 h7 pos names n4 (fl:=(σ.fl ++ es.flatMap (Ex.nm p σ.made)) ++ zI (decide (0 < σ.opn)) 61 pos) (fl':=(τ.fl ++ (es.map (Ex.ren f)).flatMap (Ex.nm p' τ.made)) ++ zI (decide (0 < τ.opn)) 61 pos) (by rw [hE,h.fl,h.opn])
  refine pair ⟨h.md,h.count,h.opn,?_⟩
  show _ ++ _ = _ ++ _
  rw [hs.fl,hs.count,Nat.add_zero]
 simp only [zBl o10]
 by_cases o9 : op = 9
 .simp only [zBq o9]
  have hs:=zDv hf i1 h7 pos [] (fun s hs=>by cases hs) (c:=c) (σ:=⟨σ.made,σ.count,σ.opn + 1,σ.fl ++ es.flatMap (Ex.nm p σ.made)⟩) (τ:=⟨τ.made,τ.count,τ.opn + 1,τ.fl ++ (es.map (Ex.ren f)).flatMap (Ex.nm p' τ.made)⟩) ⟨h.md,h.count,by show τ.opn + 1 = σ.opn + 1; rw [h.opn],by show _ ++ _ = _ ++ _; rw [h.fl,hE]⟩
  exact pair ⟨hs.md,hs.count,by show _ - 1 = _ - 1; exact congrArg (· - 1) hs.opn,hs.fl⟩
 simp only [zBl o9]
 by_cases o11 : op = 11
 .simp only [zBq o11,e2]
  exact pair (zDv hf i1 h7 pos [name] (fun s hs=>by rw [List.mem_singleton.1 hs]; exact n1) (kE.add (by rw [h.is n3])))
 simp only [zBl o11];exact pair (zDv hf i2 h8 pos [] (fun s hs=>by cases hs) (zDv hf i1 h7 pos [] (fun s hs=>by cases hs) kE))
end
end Go.Proofs.YtlclonljdagpkaaGreatDoor
namespace Go.Proofs.YtlclonljdagpkaaGreatDoor
open Go.RowKit
theorem zKY {α β : Type} (g : α -> Bool) (key : α -> β) (x x' : α) (hg : g x' = g x) (hk : key x' = key x) : ∀ (l : List α) (w : Nat),l[w]? = some x -> (l.find? g).map key = ((l.set w x').find? g).map key
 | [],w,h=>by simp at h
 | a :: l,0,h=>by
  simp at h;subst h;rw [List.set_cons_zero,List.find?_cons,List.find?_cons,hg]
  cases g a with
  | true=>simp [hk]
  | false=>rfl
 | a :: l,w + 1,h=>by
  rw [List.set_cons_succ,List.find?_cons,List.find?_cons]
  cases g a with
  | true=>rfl
  | false=>exact zKY g key x x' hg hk l w (by simpa using h)
theorem zKZ {α : Type} (g : α -> Bool) (x x' : α) (h1 : g x = false) (h2 : g x' = false) : ∀ (l : List α) (w : Nat),l[w]? = some x -> l.find? g = (l.set w x').find? g
 | [],w,h=>by simp at h
 | a :: l,0,h=>by
  simp at h;subst h
  rw [List.set_cons_zero,List.find?_cons,List.find?_cons,h1,h2]
 | a :: l,w + 1,h=>by
  rw [List.set_cons_succ,List.find?_cons,List.find?_cons]
  cases g a with
  | true=>rfl
  | false=>exact zKZ g x x' h1 h2 l w (by simpa using h)
theorem zMx {α : Type} (g : α -> Bool) (x x' : α) (hg : g x' = g x) : ∀ (l : List α) (w q : Nat),l[w]? = some x -> ((l.set w x').take q).any g = (l.take q).any g
 | [],w,q,h=>by simp at h
 | a :: l,w,0,h=>by simp
 | a :: l,0,q + 1,h=>by
  simp at h;subst h
  rw [List.set_cons_zero,List.take_succ_cons,List.take_succ_cons,List.any_cons,List.any_cons,hg]
 | a :: l,w + 1,q + 1,h=>by
  rw [List.set_cons_succ,List.take_succ_cons,List.take_succ_cons,List.any_cons,List.any_cons,zMx g x x' hg l w q (by simpa using h)]
theorem zFD {p : List It} {w : Nat} {x x' : It} (hx : p[w]? = some x) (k : x.kind = 3) (k' : x'.kind = 3) (hn : x'.name = x.name) (hk : keyF x' = keyF x) : SameL p (p.set w x') :=
 ⟨fun s=>by unfold fnIt; exact zKY _ keyF x x' (by rw [k,k',hn]) hk p w hx,fun s=>by unfold zAM; exact zKZ _ x x' (by simp [k]) (by simp [k']) p w hx⟩
theorem zQ8 {p : List It} {w : Nat} {x x' : It} (hx : p[w]? = some x) (k : x'.kind = x.kind) (hn : x'.name = x.name) (q : Nat) (y : It) : zAO (p.set w x') q y = zAO p q y:=by
 unfold zAO;exact zMx _ x x' (by rw [k,hn]) p w q hx
def zEn (p : List It) : Nat -> List It -> List Flt
 | _,[]=>[]
 | q,x :: l=>(zI (!zAO p q x) 60 x.pos ++ zBJ p 0 x []) ++ zEn p (q + 1) l
theorem zFa (p : List It) : ∀ (l : List It) (q : Nat) (fl : List Flt),zCT p q l fl = fl ++ zEn p q l
 | [],q,fl=>by simp [zCT,zEn]
 | x :: l,q,fl=>by rw [zCT,zFa p l,zOX,zEn,List.append_assoc]
theorem zMy {p p' : List It} (hp : SameL p p') (ha : ∀ q y,zAO p' q y = zAO p q y) {x x' : It} (k : x'.kind = x.kind) (hn : x'.name = x.name) (hpos : x'.pos = x.pos) : ∀ (l : List It) (w q : Nat),l[w]? = some x -> ∃ A C,zEn p q l = A ++ (zBJ p 0 x [] ++ C) /\ zEn p' q (l.set w x') = A ++ (zBJ p' 0 x' [] ++ C)
 | [],w,q,h=>by simp at h
 | a :: l,0,q,h=>by
  simp at h;subst h
  have e : ∀ (l : List It) (q : Nat),zEn p' q l = zEn p q l:=by
   intro l
   induction l with
   | nil=>intro q; rfl
   | cons y l ih=>intro q; rw [zEn,zEn,ih,ha,zMv hp]
  have e2 : zAO p q x' = zAO p q a:=by unfold zAO; rw [k,hn]
  refine ⟨zI (!zAO p q a) 60 a.pos,zEn p (q + 1) l,?_,?_⟩
  .rw [zEn,List.append_assoc]
  .rw [List.set_cons_zero,zEn,ha,e2,hpos,e,List.append_assoc]
 | a :: l,w + 1,q,h=>by
  obtain ⟨A,C,h1,h2⟩:=zMy hp ha k hn hpos l w (q + 1) (by simpa using h)
  refine ⟨(zI (!zAO p q a) 60 a.pos ++ zBJ p 0 a []) ++ A,C,?_,?_⟩
  .simp only [zEn,h1,List.append_assoc]
  .rw [List.set_cons_succ,zEn,h2,ha,<- zMv hp]; simp only [List.append_assoc]
theorem zHO {p : List It} {w : Nat} {x x' : It} (hx : p[w]? = some x) (k3 : x.kind = 3) (k : x'.kind = x.kind) (hn : x'.name = x.name) (hpos : x'.pos = x.pos) (hk : keyF x' = keyF x) (hw : z6 p = true) (hw' : z6 (p.set w x') = true) :
  ∃ A C,z7 p = A ++ (zBJ p 0 x [] ++ C) /\ z7 (p.set w x') = A ++ (zBJ (p.set w x') 0 x' [] ++ C):=by
 have hp:=zFD hx k3 (k.trans k3) hn hk
 obtain ⟨A,C,h1,h2⟩:=zMy hp (zQ8 hx k hn) k hn hpos p w 0 hx
 refine ⟨A,C ++ zI (zFt p zFu) 62 0,?_,?_⟩
 .unfold z7; rw [if_pos hw,zFa,h1]; simp
 .unfold z7; rw [if_pos hw',zFa,h2,<- zTh hp]; simp
theorem zCu {p : List It} {w : Nat} {x' : It} (hw : z6 p = true) (hx : x'.whole 39 = true) : z6 (p.set w x') = true:=by
 unfold z6 z5 at hw ⊢;simp only [Bool.and_eq_true,decide_eq_true_eq,List.length_set] at hw ⊢
 have hl:=hw.1
 rw [List.take_of_length_le (by omega)] at hw
 rw [List.take_of_length_le (by rw [List.length_set]; omega)]
 refine ⟨hl,List.all_eq_true.2 fun y hy=>?_⟩
 rcases List.mem_or_eq_of_mem_set hy with h | rfl
 .exact List.all_eq_true.1 hw.2 y h
 .exact hx
theorem zCv {p : List It} {w : Nat} {x : It} (hw : z6 p = true) (hx : p[w]? = some x) : x.whole 39 = true:=by
 unfold z6 z5 at hw;simp only [Bool.and_eq_true,decide_eq_true_eq] at hw;rw [List.take_of_length_le (by omega)] at hw
 exact List.all_eq_true.1 hw.2 x (List.mem_of_getElem? hx)
def Fi.ren (f : ByteArray -> ByteArray) (y : Fi) : Fi:=⟨f y.name,y.type⟩
def It.ren (f : ByteArray -> ByteArray) (x : It) : It:=⟨x.kind,x.name,x.fields.map (Fi.ren f),x.result,x.body.map (St.ren f),x.ret.ren f,x.pos⟩
def It.has (t : ByteArray) (x : It) : Bool:=(x.fields.any fun y=>sEq y.name t) || (x.body.any (St.has t) || x.ret.has t)
section
variable {f : ByteArray -> ByteArray} {t : ByteArray} (hf : RenOk f t) {p p' : List It} (hp : SameL p p')
include hf
theorem zWo {met : List ByteArray} (hm : ∀ s ∈ met,s ≠ t) {n : ByteArray} (hn : n ≠ t) : cntN (met.map f) (f n) = cntN met n:=by
 unfold cntN;rw [List.countP_map];refine List.countP_congr fun a ha=>?_
 show sEq (f a) (f n) = true ↔ sEq a n = true
 rw [zAw,zAw];exact ⟨hf.inj a n (hm a ha) hn,fun e=>by rw [e]⟩
theorem zMz : ∀ (l : List ByteArray) {m m' : List Fg},(∀ s ∈ l,s ≠ t) -> (∀ n,n ≠ t -> mGet m' (f n) = mGet m n) -> ∀ n,n ≠ t -> mGet ((l.map f).foldl (fun m s=>mPut m s true) m') (f n) = mGet (l.foldl (fun m s=>mPut m s true) m) n
 | [],m,m',_,h=>h
 | s :: l,m,m',hl,h=>by
  simp only [List.map_cons,List.foldl_cons];refine zMz l (fun y hy=>hl y (List.mem_cons_of_mem _ hy)) fun n hn=>?_
  have hs:=hl s (by simp)
  rw [zBK,zBK,h n hn]
  by_cases e : n = s
  .rw [if_pos e,if_pos (by rw [e])]
  .rw [if_neg e,if_neg fun k=>e (hf.inj _ _ hn hs k)]
include hp
theorem zIQ (pos : Int) : ∀ (l : List Fi) (met : List ByteArray),(∀ y ∈ l,y.name ≠ t) -> (∀ s ∈ met,s ≠ t) -> zAS p' pos (met.map f) (l.map (Fi.ren f)) = zAS p pos met l
 | [],_,_,_=>rfl
 | y :: l,met,hl,hm=>by
  have hy:=hl y (by simp)
  rw [List.map_cons,zAS,zAS]
  have e1 : (Fi.ren f y).name = f y.name:=rfl
  have e2 : (Fi.ren f y).type = y.type:=rfl
  have e3 : met.map f ++ [f y.name] = (met ++ [y.name]).map f:=by simp
  rw [e1,e2,e3,zWo hf hm hy,<- zEm hp,zIQ pos l (met ++ [y.name]) (fun z hz=>hl z (List.mem_cons_of_mem _ hz)) fun s hs=>by
   rcases List.mem_append.1 hs with h | h
   .exact hm s h
   .rw [List.mem_singleton.1 h]; exact hy]
theorem zTn {x : It} (h : x.has t = false) (fl : List Flt) : NfQ f t 0 (zDE p x fl) (zDE p' (x.ren f) fl):=by
 unfold It.has at h;simp only [Bool.or_eq_false_iff] at h
 obtain ⟨h1,h2,h3⟩:=h
 have hn : ∀ s ∈ x.fields.map Fi.name,s ≠ t:=fun s hs=>by
  obtain ⟨y,hy,rfl⟩:=List.mem_map.1 hs
  exact sNe (by have:=List.any_eq_false.1 h1 y hy; simpa using this)
 have e1 : (x.fields.map (Fi.ren f)).map Fi.name = (x.fields.map Fi.name).map f:=by rw [List.map_map,List.map_map]; rfl
 unfold zDE
 show NfQ f t 0 _ ((fun (r : Nf × List Fg)=>Nf.undo r.2 (r.1.add ((x.ret.ren f).nm p' r.1.made))) (St.nms p' (x.body.map (St.ren f)) ⟨((x.fields.map (Fi.ren f)).map Fi.name).foldl (fun m s=>mPut m s true) [],(x.fields.map (Fi.ren f)).length,0,fl⟩))
 rw [e1,List.length_map]
 have k:=zHN (c:=0) (p:=p) (p':=p') (f:=f) (t:=t) x.body (fun s _=>zUW hf hp s) h2 ⟨(x.fields.map Fi.name).foldl (fun m s=>mPut m s true) [],x.fields.length,0,fl⟩ ⟨((x.fields.map Fi.name).map f).foldl (fun m s=>mPut m s true) [],x.fields.length,0,fl⟩ ⟨zMz hf _ hn fun n _=>rfl,rfl,rfl,rfl⟩
 simp only;rw [k.2.1];exact NfQ.undo hf _ k.2.2 (k.1.add (zQ6 hf hp k.1.md x.ret h3))
theorem zTo {x : It} (h : x.has t = false) (k3 : x.kind = 3) : zBJ p' 0 (x.ren f) [] = zBJ p 0 x []:=by
 have hb:=fun fl=>zTn hf hp h fl
 have h1 : ∀ y ∈ x.fields,y.name ≠ t:=fun y hy=>by
  unfold It.has at h;simp only [Bool.or_eq_false_iff] at h;exact sNe (by have:=List.any_eq_false.1 h.1 y hy; simpa using this)
 unfold zBJ;simp only [zEK,Bool.not_false,zDM,List.append_nil,List.nil_append]
 have e1 : (x.ren f).kind = x.kind:=rfl
 have e2 : (x.ren f).fields = x.fields.map (Fi.ren f):=rfl
 have e3 : (x.ren f).result = x.result:=rfl
 have e4 : (x.ren f).pos = x.pos:=rfl
 have e5:=zIQ hf hp x.pos x.fields [] h1 fun s hs=>by cases hs
 rw [List.map_nil] at e5;rw [e1,e2,e3,e4,e5,if_pos k3,if_pos k3,<- zEm hp,(hb _).fl,(hb _).count,Nat.add_zero]
end
section
variable {f : ByteArray -> ByteArray} (h0 : f emS = emS) (hN : ∀ a,zAX a = true -> zAX (f a) = true)
include h0 hN
omit hN in
theorem zKa {a : ByteArray} (h : sEq a emS = true) : sEq (f a) emS = true:=by
 rw [zAw.1 h,h0]; exact zAw.2 rfl
omit h0 in
theorem zHP {x : Pl} (h : x.whole = true) : (x.ren f).whole = true:=by
 unfold Pl.whole at h ⊢;rw [Bool.and_eq_true] at h ⊢;exact ⟨hN _ h.1,h.2⟩
omit hN in
theorem zJI {x : Pl} (h : zFN x = true) : zFN (x.ren f) = true:=by
 unfold zFN at h ⊢;rw [Bool.and_eq_true] at h ⊢;exact ⟨zKa h0 h.1,h.2⟩
theorem zOY {op : Int} {x : Pl} {n : Nat} {is : Bool} (h : zDl op x n is = true) : zDl op (x.ren f) n is = true:=by
 unfold zDl at h ⊢;split
 .rename_i h1; rw [if_pos h1] at h; exact zHP hN h
 .rename_i h1
  rw [if_neg h1] at h;split
  .rename_i h2
   rw [if_pos h2] at h;simp only [Bool.and_eq_true] at h ⊢;exact ⟨zKa h0 h.1,h.2⟩
  .rename_i h2; rw [if_neg h2] at h; exact zJI h0 h
theorem zHQ : ∀ (e : Ex) (d : Int),e.whole d = true -> (e.ren f).whole d = true:=by
 refine Ex.ind fun e ih d h=>?_
 rw [zCj] at h;rw [zCj,zJH]
 show (decide (1 <= d) && (zH4 e.op e.int e.name e.second (e.place.ren f) (e.args.map (Ex.ren f)).length && z5 (fun t=>((e.op == 18) || !zA6 t.op) && t.whole (d - 1)) (e.args.map (Ex.ren f)) (shM e.op))) = true
 unfold zH4 at h ⊢;simp only [Bool.and_eq_true,List.length_map] at h ⊢
 obtain ⟨h1,⟨h2,h3,h4,h5⟩,h6⟩:=h
 refine ⟨h1,⟨h2,h3,h4,zOY h0 hN h5⟩,?_⟩
 obtain ⟨a1,a2⟩ : (e.args.length : Int) <= shM e.op /\ ∀ x ∈ e.args,(((e.op == 18) || !zA6 x.op) && x.whole (d - 1)) = true:=by
  unfold z5 at h6;simp only [Bool.and_eq_true,decide_eq_true_eq] at h6
  have hl:=h6.1
  rw [List.take_of_length_le (by omega)] at h6
  exact ⟨hl,fun x hx=>by have:=List.all_eq_true.1 h6.2 x hx; simpa using this⟩
 rw [zCi (by rw [List.length_map]; exact a1)]
 refine List.all_eq_true.2 fun y hy=>?_
 obtain ⟨x,hx,rfl⟩:=List.mem_map.1 hy
 have:=a2 x hx
 simp only [Bool.and_eq_true] at this ⊢;refine ⟨?_,ih x hx _ this.2⟩
 have e : (x.ren f).op = x.op:=by rw [zJH]; rfl
 rw [e]; exact this.1
omit h0 hN in
theorem zJJ {α : Type} (g : α -> α) (P : α -> Bool) (m : Int) {l : List α} (h : z5 P l m = true) (hg : ∀ x ∈ l,P x = true -> P (g x) = true) : z5 P (l.map g) m = true:=by
 unfold z5 at h ⊢;simp only [Bool.and_eq_true,decide_eq_true_eq,List.length_map] at h ⊢
 have hl:=h.1
 rw [List.take_of_length_le (by omega)] at h
 rw [List.take_of_length_le (by rw [List.length_map]; omega)]
 refine ⟨hl,List.all_eq_true.2 fun y hy=>?_⟩
 obtain ⟨x,hx,rfl⟩:=List.mem_map.1 hy
 exact hg x hx (List.all_eq_true.1 h.2 x hx)
theorem zQ9 {op : Int} {n s : ByteArray} (h1 : fmN op n = true) (h2 : fmS op s = true) : fmN op (if op = 2 then n else f n) = true /\ fmS op (if op = 8 then s else f s) = true:=by
 constructor
 .unfold fmN at h1 ⊢
  split at h1
  .rename_i ho
   rw [if_pos ho,if_neg (by omega)]; exact hN _ h1
  .rename_i ho
   rw [if_neg ho];split at h1
   .rename_i h2'; rw [if_pos h2',if_pos h2']; exact h1
   .rename_i h2'; rw [if_neg h2',if_neg h2']; exact zKa h0 h1
 .unfold fmS at h2 ⊢
  split at h2
  .rename_i ho; rw [if_pos ho,if_pos ho]; exact h2
  .rename_i ho
   rw [if_neg ho,if_neg ho];split at h2
   .rename_i h2'; rw [if_pos h2']; exact hN _ h2
   .rename_i h2'; rw [if_neg h2']; exact zKa h0 h2
theorem zLi : ∀ (s : St) (d : Int),s.whole d = true -> (s.ren f).whole d = true:=by
 refine St.ind fun s i1 i2 i3 d h=>?_
 rw [zB] at h;rw [zB,zQ4]
 obtain ⟨op,name,second,names,ty,int,pl,es,b,el,ar,pos⟩:=s
 simp only [St.op,St.name,St.second,St.names,St.type,St.int,St.place,St.exprs,St.body,St.els,St.arms,St.pos] at *;unfold zO at h ⊢;simp only [Bool.and_eq_true,List.length_map,decide_eq_true_eq] at h ⊢
 obtain ⟨h1,⟨a1,a2,a3,a4,a5,a6,a7,a8,a9,a10⟩,h2,h3,h4,h5,h6,h7,h8⟩:=h
 obtain ⟨n1,n2⟩:=zQ9 h0 hN a3 a4
 refine ⟨h1,⟨a1,a2,n1,n2,a5,zJJ f zAX _ a6 (fun s _ hs=>hN s hs),a7,a8,?_,?_⟩,h2,h3,h4,?_,?_,?_,?_⟩
 .cases hq : zk op with
  | true=>rw [hq] at a9; have:=zHP hN (beq_iff_eq.1 a9).symm; rw [this]; rfl
  | false =>
   have h10:=a10
   rw [hq] at h10
   have:=zJI h0 (by simpa using h10)
   unfold zFN at this;rw [Bool.and_eq_true] at this
   have e0 : (pl.ren f).whole = false:=by
    unfold Pl.whole;rw [zAw.1 this.1];rfl
   rw [e0]; rfl
 .rcases Bool.or_eq_true_iff.1 a10 with h | h
  .rw [h]; rfl
  .rw [zJI h0 h,Bool.or_true]
 .unfold exsB at h5 ⊢
  refine zJJ (Ex.ren f) _ _ h5 fun x _ hx=>?_
  simp only [Bool.and_eq_true] at hx ⊢
  have e : (x.ren f).op = x.op:=by rw [zJH]; rfl
  rw [e];exact ⟨hx.1,zHQ h0 hN x _ hx.2⟩
 .refine List.all_eq_true.2 fun y hy=>?_
  obtain ⟨x,hx,rfl⟩:=List.mem_map.1 hy
  exact i1 x hx _ (List.all_eq_true.1 h6 x hx)
 .refine List.all_eq_true.2 fun y hy=>?_
  obtain ⟨x,hx,rfl⟩:=List.mem_map.1 hy
  exact i2 x hx _ (List.all_eq_true.1 h7 x hx)
 .refine zJJ (Ar.ren f) _ _ h8 fun a ha h=>?_
  unfold Ar.whole at h ⊢;simp only [Bool.and_eq_true] at h ⊢;refine ⟨h.1,?_,?_⟩
  .rcases Bool.or_eq_true_iff.1 h.2.1 with k | k
   .show (sEq (f a.name) emS || _) = true
    rw [zKa h0 k]; rfl
   .show (_ || zAX (f a.name)) = true
    rw [hN _ k,Bool.or_true]
  .refine List.all_eq_true.2 fun y hy=>?_
   obtain ⟨x,hx,rfl⟩:=List.mem_map.1 hy
   exact i3 a ha x hx _ (List.all_eq_true.1 h.2.2 x hx)
theorem zHR {x : It} {d : Int} (h : x.whole d = true) (k3 : x.kind = 3) : (x.ren f).whole d = true:=by
 unfold It.whole at h ⊢
 have e1 : (x.ren f).kind = x.kind:=rfl
 rw [e1];rw [if_neg (by omega)] at h ⊢
 rw [if_pos k3] at h ⊢;simp only [Bool.and_eq_true] at h ⊢
 obtain ⟨h1,h2,h3,h4,h5,h6⟩:=h
 refine ⟨h1,zJJ (Fi.ren f) _ _ h2 (fun y _ hy=>?_),h3,?_,zHQ h0 hN _ _ h5,?_⟩
 .unfold zCJ at hy ⊢
  rw [if_neg (by omega)] at hy ⊢
  simp only [Bool.and_eq_true] at hy ⊢;exact ⟨hN _ hy.1,hy.2⟩
 .have e : (x.ren f).ret.op = x.ret.op:=by show (x.ret.ren f).op = _; rw [zJH]; rfl
  rw [e]; exact h4
 .refine List.all_eq_true.2 fun y hy=>?_
  obtain ⟨s,hs,rfl⟩:=List.mem_map.1 (show y ∈ x.body.map (St.ren f) from hy)
  exact zLi h0 hN s _ (List.all_eq_true.1 h6 s hs)
end
def zHS (a s : ByteArray) : ByteArray:=if sEq s a = true then zM else s
theorem zKb : zM ≠ emS:=fun h=>by
 have h1:=congrArg ByteArray.size h
 exact absurd h1 (by decide)
theorem zJK {a : ByteArray} (ha : a ≠ emS) : RenOk (zHS a) zM:=by
 refine ⟨fun x y hx hy h=>?_,fun x hx h=>?_,?_⟩
 .unfold zHS at h
  split at h <;> split at h
  .rename_i h1 h2; rw [zAw.1 h1,zAw.1 h2]
  .exact absurd h.symm hy
  .exact absurd h hx
  .exact h
 .unfold zHS at h
  split at h
  .exact absurd h zKb
  .exact h
 .unfold zHS
  rw [if_neg fun h=>ha (zAw.1 h).symm]
theorem zOZ : zAX zM = true:=by kernel_rfl
theorem zHT (a : ByteArray) (s : ByteArray) (h : zAX s = true) : zAX (zHS a s) = true:=by
 unfold zHS;split
 .exact zOZ
 .exact h
theorem zRA {p : List It} {w : Nat} {x : It} (hx : p[w]? = some x) (k3 : x.kind = 3) (hw : z6 p = true) {a : ByteArray} (ha : a ≠ emS) (hh : x.has zM = false) : z7 (p.set w (x.ren (zHS a))) = z7 p:=by
 have hwx:=zHR (zJK ha).em0 (zHT a) (zCv hw hx) k3
 have hk : keyF (x.ren (zHS a)) = keyF x:=by unfold keyF; show ((x.fields.map _).length,_) = _; rw [List.length_map]; rfl
 obtain ⟨A,C,h1,h2⟩:=zHO hx k3 (x':=x.ren (zHS a)) rfl rfl rfl hk hw (zCu hw hwx)
 rw [h1,h2,zTo (zJK ha) (zFD hx k3 (x':=x.ren (zHS a)) k3 rfl hk) hh k3]
end Go.Proofs.YtlclonljdagpkaaGreatDoor
