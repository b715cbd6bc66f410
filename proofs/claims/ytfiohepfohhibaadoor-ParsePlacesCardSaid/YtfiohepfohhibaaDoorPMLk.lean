/- A part of the proof. The statement is proved in the claim's last text. -/
import Derived.WalkKit
import Derived.WalkSpells
import Derived.WalkLawsBesides
import Derived.Lib.Hide
import Derived.Lib.Tables
import Derived.Lib.Fields
import Derived.Lib.ItoaMem
import Derived.Orders
import Derived.Lib.AppendStr
import Derived.Deep.AppendLies
set_option linter.unusedVariables false
set_option linter.unusedSimpArgs false
set_option maxRecDepth 100000
set_option maxHeartbeats 32000000
namespace Go.Proofs.YtfiohepfohhibaaDoor
open Go.RowKit
theorem lt_of_cell {w : World} {b o : Nat} {v : Value} (h : w.cell? ⟨b,o,none⟩ = some v) : b < w.heap.size:=by
 rcases Nat.lt_or_ge b w.heap.size with hlt | hge
 ·exact hlt
 ·simp [World.cell?,Array.getElem?_eq_none hge] at h
theorem cell_blk {w : World} {g : Nat} {t : TypeId} {cs : Array Value} (h : w.heap[g]? = some (.cells cs t (0,0))) (i : Nat) : w.cell? ⟨g,i,none⟩ = cs[i]?:=by simp [World.cell?,h]
theorem frozen_blk {w : World} {g : Nat} {t : TypeId} {cs : Array Value} (h : w.heap[g]? = some (.cells cs t (0,0))) (i : Nat) : w.frozen? ⟨g,i,none⟩ = false:=by simp [World.frozen?,h]
theorem blk_new (w : World) (o : Obj) : (w.alloc o).heap[w.heap.size]? = some o:=heap_alloc_new w o
theorem blk_lt {w : World} {g : Nat} {o : Obj} (h : w.heap[g]? = some o) : g < w.heap.size:=by
 rcases Nat.lt_or_ge g w.heap.size with hlt | hge
 ·exact hlt
 ·rw [Array.getElem?_eq_none hge] at h; cases h
theorem blk_set {w : World} {g : Nat} {t : TypeId} {cs : Array Value} (h : w.heap[g]? = some (.cells cs t (0,0))) (i : Nat) (u : Value) : (w.setCell ⟨g,i,none⟩ u).heap[g]? = some (.cells (cs.setIfInBounds i u) t (0,0)):=by
 simp [World.setCell,Array.getElem?_modify,h]
def Keeps (S : Nat → Prop) (w w' : World) : Prop:=∀ b,S b → ∀ o v,w.cell? ⟨b,o,none⟩ = some v → w'.cell? ⟨b,o,none⟩ = some v ∧ w'.frozen? ⟨b,o,none⟩ = w.frozen? ⟨b,o,none⟩
theorem Keeps.trans {S : Nat → Prop} {a b c : World} (h : Keeps S a b) (k : Keeps S b c) : Keeps S a c:=fun x hx o v hv=>⟨(k x hx o v (h x hx o v hv).1).1,((k x hx o v (h x hx o v hv).1).2).trans (h x hx o v hv).2⟩
theorem Keeps.refl (S : Nat → Prop) (a : World) : Keeps S a a:=fun _ _ _ _ h=>⟨h,rfl⟩
theorem Keeps.sub {S S' : Nat → Prop} {w w' : World} (h : Keeps S w w') (hs : ∀ b,S' b → S b) : Keeps S' w w':=fun b hb=>h b (hs b hb)
abbrev Any : Nat → Prop:=fun _=>True
def RdSl {α : Type} (w : World) (S : Nat → Prop) (size : Nat) (R : α → (Nat → Value) → Prop) (l : List α) (v : Value) : Prop :=
 ∃ A cap,v = .slice A l.length cap ∧ l.length ≤ cap ∧ cap ≤ maxLen ∧ (A = none → cap = 0) ∧
  ∀ i x,l[i]? = some x → ∃ b off,A = some ⟨b,off,none⟩ ∧ S b ∧ ∃ f : Nat → Value,R x f ∧ ∀ j,j < size → w.cell? ⟨b,off + i * size + j,none⟩ = some (f j) ∧ w.frozen? ⟨b,off + i * size + j,none⟩ = false
theorem RdSl.mono {α : Type} {w w' : World} {S S' : Nat → Prop} {size : Nat} {R R' : α → (Nat → Value) → Prop} {l : List α} {v : Value} (h : RdSl w S size R l v) (hw : Keeps S w w') (hS : ∀ b,S b → S' b) (hR : ∀ x ∈ l,∀ f,R x f → R' x f) : RdSl w' S' size R' l v:=by
 obtain ⟨A,cap,h1,h2,h3,h4,h5⟩:=h
 refine ⟨A,cap,h1,h2,h3,h4,fun i x hx=>?_⟩
 obtain ⟨b,off,hA,hb,f,hf,hc⟩:=h5 i x hx
 exact ⟨b,off,hA,hS b hb,f,hR _ (List.mem_of_getElem? hx) _ hf,fun j hj=>⟨(hw _ hb _ _ (hc j hj).1).1,((hw _ hb _ _ (hc j hj).1).2).trans (hc j hj).2⟩⟩
theorem RdSl.fuel {α : Type} {w : World} {S : Nat → Prop} {size : Nat} {R : Nat → α → (Nat → Value) → Prop} (hR : ∀ n x f,R n x f → R (n + 1) x f) {l : List α} {v : Value} (h : RdSl w S size (fun x f=>∃ n,R n x f) l v) : ∃ n,RdSl w S size (R n) l v:=by
 have hup : ∀ m n x f,R n x f → R (n + m) x f:=by
  intro m
  induction m with
  | zero=>intro n x f h; exact h
  | succ m ih=>intro n x f h; exact hR _ _ _ (ih _ _ _ h)
 obtain ⟨A,cap,h1,h2,h3,h4,h5⟩:=h
 have key : ∀ k,∃ N,∀ i x,i < k → l[i]? = some x → ∃ b off,A = some ⟨b,off,none⟩ ∧ S b ∧ ∃ f : Nat → Value,R N x f ∧ ∀ j,j < size → w.cell? ⟨b,off + i * size + j,none⟩ = some (f j) ∧ w.frozen? ⟨b,off + i * size + j,none⟩ = false:=by
  intro k
  induction k with
  | zero=>exact ⟨0,fun i x hi=>by omega⟩
  | succ k ih =>
   obtain ⟨N,hN⟩:=ih
   rcases Nat.lt_or_ge k l.length with hk | hk
   ·obtain ⟨b,off,hA,hb,f,⟨n,hf⟩,hc⟩:=h5 k _ (List.getElem?_eq_getElem hk)
    refine ⟨N + n,fun i x hi hx=>?_⟩
    rcases Nat.lt_or_ge i k with hik | hik
    ·obtain ⟨b',off',hA',hb',f',hf',hc'⟩:=hN i x hik hx
     exact ⟨b',off',hA',hb',f',hup n _ _ _ hf',hc'⟩
    ·obtain rfl : i = k:=by omega
     rw [List.getElem?_eq_getElem hk] at hx
     cases hx
     exact ⟨b,off,hA,hb,f,by rw [Nat.add_comm]; exact hup N _ _ _ hf,hc⟩
   ·exact ⟨N,fun i x hi hx=>hN i x (by have:=(List.getElem?_eq_some_iff.1 hx).1; omega) hx⟩
 obtain ⟨N,hN⟩:=key l.length
 exact ⟨N,A,cap,h1,h2,h3,h4,fun i x hx=>hN i x (List.getElem?_eq_some_iff.1 hx).1 hx⟩
theorem toList_inj {a b : ByteArray} (h : a.toList = b.toList) : a = b:=by
 rw [ByteArray.toList_eq,ByteArray.toList_eq] at h
 exact ByteArray.ext (Array.ext' h)
def RdStr (s : ByteArray) (f : Nat → Value) : Prop:=f 0 = .string s ∧ s.size ≤ maxLen
inductive Ty where
 | mk (kind : Int) (name : ByteArray) (args : List Ty)
def Ty.kind : Ty → Int | .mk k _ _=>k
def Ty.name : Ty → ByteArray | .mk _ s _=>s
def Ty.args : Ty → List Ty | .mk _ _ l=>l
theorem Ty.ind {p : Ty → Prop} (h : ∀ t : Ty,(∀ x ∈ t.args,p x) → p t) : ∀ t,p t:=by
 have key : ∀ n (t : Ty),SizeOf.sizeOf t < n → p t:=by
  intro n
  induction n with
  | zero=>intro t ht; omega
  | succ n ih =>
   intro t ht
   refine h t fun x hx=>ih x ?_
   cases t with
   | mk k s l =>
    have:=List.sizeOf_lt_of_mem (show x ∈ l from hx)
    simp at ht
    omega
 exact fun t=>key _ t (Nat.lt_succ_self _)
def RdTy (w : World) (S : Nat → Prop) : Nat → Ty → (Nat → Value) → Prop
 | 0,_,_=>False
 | n + 1,t,f=>f 0 = .int .u8 t.kind ∧ 0 ≤ t.kind ∧ t.kind ≤ 255 ∧ f 1 = .string t.name ∧ t.name.size ≤ maxLen ∧ RdSl w S 3 (RdTy w S n) t.args (f 2)
def TyIn (w : World) (S : Nat → Prop) (t : Ty) (f : Nat → Value) : Prop:=∃ n,RdTy w S n t f
theorem RdTy.up {w : World} {S : Nat → Prop} : ∀ (n : Nat) (t : Ty) (f : Nat → Value),RdTy w S n t f → RdTy w S (n + 1) t f
 | 0,_,_,h=>h.elim
 | n + 1,t,f,⟨h0,h1,h2,h3,h4,h5⟩=>⟨h0,h1,h2,h3,h4,h5.mono (Keeps.refl _ _) (fun _ h=>h) (fun x _ f h=>RdTy.up n x f h)⟩
theorem RdTy.mono {w w' : World} {S S' : Nat → Prop} (hw : Keeps S w w') (hS : ∀ b,S b → S' b) : ∀ (n : Nat) (t : Ty) (f : Nat → Value),RdTy w S n t f → RdTy w' S' n t f
 | 0,_,_,h=>h.elim
 | n + 1,t,f,⟨h0,h1,h2,h3,h4,h5⟩=>⟨h0,h1,h2,h3,h4,h5.mono hw hS (fun x _ f h=>RdTy.mono hw hS n x f h)⟩
theorem TyIn.mono {w w' : World} {S S' : Nat → Prop} {t : Ty} {f : Nat → Value} (h : TyIn w S t f) (hw : Keeps S w w') (hS : ∀ b,S b → S' b) : TyIn w' S' t f:=h.imp fun n h=>RdTy.mono hw hS n t f h
theorem TyIn.iff {w : World} {S : Nat → Prop} {t : Ty} {f : Nat → Value} : TyIn w S t f ↔ f 0 = .int .u8 t.kind ∧ 0 ≤ t.kind ∧ t.kind ≤ 255 ∧ f 1 = .string t.name ∧ t.name.size ≤ maxLen ∧ RdSl w S 3 (TyIn w S) t.args (f 2):=by
 constructor
 ·rintro ⟨n,h⟩
  cases n with
  | zero=>exact h.elim
  | succ n =>
   obtain ⟨h0,h1,h2,h3,h4,h5⟩:=h
   exact ⟨h0,h1,h2,h3,h4,h5.mono (Keeps.refl _ _) (fun _ h=>h) fun x _ f h=>⟨n,h⟩⟩
 ·rintro ⟨h0,h1,h2,h3,h4,h5⟩
  obtain ⟨n,hn⟩:=RdSl.fuel RdTy.up h5
  exact ⟨n + 1,h0,h1,h2,h3,h4,hn⟩
theorem TyIn.one {w : World} {S : Nat → Prop} {t : Ty} {f : Nat → Value} (h : TyIn w S t f) : ∀ j,j < 3 → (f j).oneCell' = true:=by
 obtain ⟨h0,_,_,h1,_,A,cap,h2,_⟩:=TyIn.iff.1 h
 intro j hj
 match j,hj with
 | 0,_=>rw [h0]; rfl
 | 1,_=>rw [h1]; rfl
 | 2,_=>rw [h2]; rfl
structure Pl where
 name : ByteArray
 path : List ByteArray
def PlIn (w : World) (S : Nat → Prop) (p : Pl) (f : Nat → Value) : Prop:=f 0 = .string p.name ∧ p.name.size ≤ maxLen ∧ RdSl w S 1 RdStr p.path (f 1)
theorem PlIn.mono {w w' : World} {S S' : Nat → Prop} {t : Pl} {f : Nat → Value} (h : PlIn w S t f) (hw : Keeps S w w') (hS : ∀ b,S b → S' b) : PlIn w' S' t f :=
 ⟨h.1,h.2.1,h.2.2.mono hw hS fun _ _ _ h=>h⟩
def i64 (n : Int) : Prop:=-9223372036854775808 ≤ n ∧ n ≤ 9223372036854775807
inductive Ex where
 | mk (op int : Int) (name second : ByteArray) (place : Pl) (args : List Ex) (pos : Int)
def Ex.op : Ex → Int | .mk a _ _ _ _ _ _=>a
def Ex.int : Ex → Int | .mk _ a _ _ _ _ _=>a
def Ex.name : Ex → ByteArray | .mk _ _ a _ _ _ _=>a
def Ex.second : Ex → ByteArray | .mk _ _ _ a _ _ _=>a
def Ex.place : Ex → Pl | .mk _ _ _ _ a _ _=>a
def Ex.args : Ex → List Ex | .mk _ _ _ _ _ a _=>a
def Ex.pos : Ex → Int | .mk _ _ _ _ _ _ a=>a
theorem Ex.ind {p : Ex → Prop} (h : ∀ t : Ex,(∀ x ∈ t.args,p x) → p t) : ∀ t,p t:=by
 have key : ∀ n (t : Ex),SizeOf.sizeOf t < n → p t:=by
  intro n
  induction n with
  | zero=>intro t ht; omega
  | succ n ih =>
   intro t ht
   refine h t fun x hx=>ih x ?_
   cases t with
   | mk a b c d e l g =>
    have:=List.sizeOf_lt_of_mem (show x ∈ l from hx)
    simp at ht
    omega
 exact fun t=>key _ t (Nat.lt_succ_self _)
def ExHead (w : World) (S : Nat → Prop) (e : Ex) (f : Nat → Value) : Prop :=
 f 0 = .int .u8 e.op ∧ (0 ≤ e.op ∧ e.op ≤ 255) ∧ f 1 = .int .i64 e.int ∧ i64 e.int ∧ f 2 = .string e.name ∧ e.name.size ≤ maxLen ∧ f 3 = .string e.second ∧ e.second.size ≤ maxLen ∧
  PlIn w S e.place (fun j=>f (4 + j)) ∧ f 7 = .int .i64 e.pos ∧ i64 e.pos
def RdEx (w : World) (S : Nat → Prop) : Nat → Ex → (Nat → Value) → Prop
 | 0,_,_=>False
 | n + 1,e,f=>ExHead w S e f ∧ RdSl w S 8 (RdEx w S n) e.args (f 6)
def ExIn (w : World) (S : Nat → Prop) (t : Ex) (f : Nat → Value) : Prop:=∃ n,RdEx w S n t f
theorem ExHead.mono {w w' : World} {S S' : Nat → Prop} {t : Ex} {f : Nat → Value} (h : ExHead w S t f) (hw : Keeps S w w') (hS : ∀ b,S b → S' b) : ExHead w' S' t f:=by
 obtain ⟨a,b,c,d,e,g,h,i,j,k,l⟩:=h
 exact ⟨a,b,c,d,e,g,h,i,j.mono hw hS,k,l⟩
theorem RdEx.up {w : World} {S : Nat → Prop} : ∀ (n : Nat) (t : Ex) (f : Nat → Value),RdEx w S n t f → RdEx w S (n + 1) t f
 | 0,_,_,h=>h.elim
 | n + 1,t,f,⟨h0,h5⟩=>⟨h0,h5.mono (Keeps.refl _ _) (fun _ h=>h) (fun x _ f h=>RdEx.up n x f h)⟩
theorem RdEx.mono {w w' : World} {S S' : Nat → Prop} (hw : Keeps S w w') (hS : ∀ b,S b → S' b) : ∀ (n : Nat) (t : Ex) (f : Nat → Value),RdEx w S n t f → RdEx w' S' n t f
 | 0,_,_,h=>h.elim
 | n + 1,t,f,⟨h0,h5⟩=>⟨h0.mono hw hS,h5.mono hw hS (fun x _ f h=>RdEx.mono hw hS n x f h)⟩
theorem ExIn.mono {w w' : World} {S S' : Nat → Prop} {t : Ex} {f : Nat → Value} (h : ExIn w S t f) (hw : Keeps S w w') (hS : ∀ b,S b → S' b) : ExIn w' S' t f:=h.imp fun n h=>RdEx.mono hw hS n t f h
theorem ExIn.iff {w : World} {S : Nat → Prop} {t : Ex} {f : Nat → Value} : ExIn w S t f ↔ ExHead w S t f ∧ RdSl w S 8 (ExIn w S) t.args (f 6):=by
 constructor
 ·rintro ⟨n,h⟩
  cases n with
  | zero=>exact h.elim
  | succ n =>
   obtain ⟨h0,h5⟩:=h
   exact ⟨h0,h5.mono (Keeps.refl _ _) (fun _ h=>h) fun x _ f h=>⟨n,h⟩⟩
 ·rintro ⟨h0,h5⟩
  obtain ⟨n,hn⟩:=RdSl.fuel RdEx.up h5
  exact ⟨n + 1,h0,hn⟩
structure ArOf (α : Type) where
 variant : ByteArray
 name : ByteArray
 body : List α
inductive St where
 | mk (op : Int) (name second : ByteArray) (names : List ByteArray) (type : Ty) (int : Int) (place : Pl) (exprs : List Ex) (body els : List St) (arms : List (ArOf St)) (pos : Int)
abbrev Ar:=ArOf St
def St.op : St → Int | .mk a _ _ _ _ _ _ _ _ _ _ _=>a
def St.name : St → ByteArray | .mk _ a _ _ _ _ _ _ _ _ _ _=>a
def St.second : St → ByteArray | .mk _ _ a _ _ _ _ _ _ _ _ _=>a
def St.names : St → List ByteArray | .mk _ _ _ a _ _ _ _ _ _ _ _=>a
def St.type : St → Ty | .mk _ _ _ _ a _ _ _ _ _ _ _=>a
def St.int : St → Int | .mk _ _ _ _ _ a _ _ _ _ _ _=>a
def St.place : St → Pl | .mk _ _ _ _ _ _ a _ _ _ _ _=>a
def St.exprs : St → List Ex | .mk _ _ _ _ _ _ _ a _ _ _ _=>a
def St.body : St → List St | .mk _ _ _ _ _ _ _ _ a _ _ _=>a
def St.els : St → List St | .mk _ _ _ _ _ _ _ _ _ a _ _=>a
def St.arms : St → List Ar | .mk _ _ _ _ _ _ _ _ _ _ a _=>a
def St.pos : St → Int | .mk _ _ _ _ _ _ _ _ _ _ _ a=>a
theorem St.ind {p : St → Prop} (h : ∀ t : St,(∀ x ∈ t.body,p x) → (∀ x ∈ t.els,p x) → (∀ a ∈ t.arms,∀ x ∈ a.body,p x) → p t) : ∀ t,p t:=by
 have key : ∀ n (t : St),SizeOf.sizeOf t < n → p t:=by
  intro n
  induction n with
  | zero=>intro t ht; omega
  | succ n ih =>
   intro t ht
   cases t with
   | mk a b c d e f g l1 l2 l3 l4 i =>
    refine h _ (fun x hx=>ih x ?_) (fun x hx=>ih x ?_) (fun q hq x hx=>ih x ?_)
    ·have:=List.sizeOf_lt_of_mem (show x ∈ l2 from hx)
     simp at ht
     omega
    ·have:=List.sizeOf_lt_of_mem (show x ∈ l3 from hx)
     simp at ht
     omega
    ·have h1:=List.sizeOf_lt_of_mem (show q ∈ l4 from hq)
     have h2:=List.sizeOf_lt_of_mem hx
     simp at ht
     have h3 : SizeOf.sizeOf q.body < SizeOf.sizeOf q:=by cases q; simp; omega
     omega
 exact fun t=>key _ t (Nat.lt_succ_self _)
def StHead (w : World) (S : Nat → Prop) (s : St) (f : Nat → Value) : Prop :=
 f 0 = .int .u8 s.op ∧ (0 ≤ s.op ∧ s.op ≤ 255) ∧ f 1 = .string s.name ∧ s.name.size ≤ maxLen ∧ f 2 = .string s.second ∧ s.second.size ≤ maxLen ∧ RdSl w S 1 RdStr s.names (f 3) ∧
  TyIn w S s.type (fun j=>f (4 + j)) ∧ f 7 = .int .i64 s.int ∧ i64 s.int ∧ PlIn w S s.place (fun j=>f (8 + j)) ∧ RdSl w S 8 (ExIn w S) s.exprs (f 10) ∧ f 14 = .int .i64 s.pos ∧ i64 s.pos
def ArHead (a : Ar) (f : Nat → Value) : Prop:=f 0 = .string a.variant ∧ a.variant.size ≤ maxLen ∧ f 1 = .string a.name ∧ a.name.size ≤ maxLen
def RdSt (w : World) (S : Nat → Prop) : Nat → St → (Nat → Value) → Prop
 | 0,_,_=>False
 | n + 1,s,f=>StHead w S s f ∧ RdSl w S 15 (RdSt w S n) s.body (f 11) ∧ RdSl w S 15 (RdSt w S n) s.els (f 12) ∧ RdSl w S 3 (fun a g=>ArHead a g ∧ RdSl w S 15 (RdSt w S n) a.body (g 2)) s.arms (f 13)
def StIn (w : World) (S : Nat → Prop) (t : St) (f : Nat → Value) : Prop:=∃ n,RdSt w S n t f
def ArIn (w : World) (S : Nat → Prop) (a : Ar) (g : Nat → Value) : Prop:=ArHead a g ∧ RdSl w S 15 (StIn w S) a.body (g 2)
theorem StHead.mono {w w' : World} {S S' : Nat → Prop} {t : St} {f : Nat → Value} (h : StHead w S t f) (hw : Keeps S w w') (hS : ∀ b,S b → S' b) : StHead w' S' t f:=by
 obtain ⟨a,b,c,d,e,g,h,i,j,k,l,m,n,o⟩:=h
 exact ⟨a,b,c,d,e,g,h.mono hw hS fun _ _ _ h=>h,i.mono hw hS,j,k,l.mono hw hS,m.mono hw hS fun _ _ _ h=>h.mono hw hS,n,o⟩
theorem RdSt.up {w : World} {S : Nat → Prop} : ∀ (n : Nat) (t : St) (f : Nat → Value),RdSt w S n t f → RdSt w S (n + 1) t f
 | 0,_,_,h=>h.elim
 | n + 1,t,f,⟨h0,h1,h2,h3⟩=>⟨h0,h1.mono (Keeps.refl _ _) (fun _ h=>h) (fun x _ f h=>RdSt.up n x f h),h2.mono (Keeps.refl _ _) (fun _ h=>h) (fun x _ f h=>RdSt.up n x f h),
   h3.mono (Keeps.refl _ _) (fun _ h=>h) fun a _ g h=>⟨h.1,h.2.mono (Keeps.refl _ _) (fun _ h=>h) (fun x _ f h=>RdSt.up n x f h)⟩⟩
theorem RdSt.mono {w w' : World} {S S' : Nat → Prop} (hw : Keeps S w w') (hS : ∀ b,S b → S' b) : ∀ (n : Nat) (t : St) (f : Nat → Value),RdSt w S n t f → RdSt w' S' n t f
 | 0,_,_,h=>h.elim
 | n + 1,t,f,⟨h0,h1,h2,h3⟩=>⟨h0.mono hw hS,h1.mono hw hS (fun x _ f h=>RdSt.mono hw hS n x f h),h2.mono hw hS (fun x _ f h=>RdSt.mono hw hS n x f h),
   h3.mono hw hS fun a _ g h=>⟨h.1,h.2.mono hw hS (fun x _ f h=>RdSt.mono hw hS n x f h)⟩⟩
theorem StIn.mono {w w' : World} {S S' : Nat → Prop} {t : St} {f : Nat → Value} (h : StIn w S t f) (hw : Keeps S w w') (hS : ∀ b,S b → S' b) : StIn w' S' t f:=h.imp fun n h=>RdSt.mono hw hS n t f h
theorem ArIn.mono {w w' : World} {S S' : Nat → Prop} {t : Ar} {f : Nat → Value} (h : ArIn w S t f) (hw : Keeps S w w') (hS : ∀ b,S b → S' b) : ArIn w' S' t f:=⟨h.1,h.2.mono hw hS fun _ _ _ h=>h.mono hw hS⟩
theorem RdSt.ups {w : World} {S : Nat → Prop} {n : Nat} {t : St} {f : Nat → Value} (h : RdSt w S n t f) : ∀ m,RdSt w S (n + m) t f
 | 0=>h
 | m + 1=>RdSt.up _ _ _ (RdSt.ups h m)
theorem StIn.iff {w : World} {S : Nat → Prop} {t : St} {f : Nat → Value} : StIn w S t f ↔ StHead w S t f ∧ RdSl w S 15 (StIn w S) t.body (f 11) ∧ RdSl w S 15 (StIn w S) t.els (f 12) ∧ RdSl w S 3 (ArIn w S) t.arms (f 13):=by
 constructor
 ·rintro ⟨n,h⟩
  cases n with
  | zero=>exact h.elim
  | succ n =>
   obtain ⟨h0,h1,h2,h3⟩:=h
   exact ⟨h0,h1.mono (Keeps.refl _ _) (fun _ h=>h) fun x _ f h=>⟨n,h⟩,h2.mono (Keeps.refl _ _) (fun _ h=>h) fun x _ f h=>⟨n,h⟩,
    h3.mono (Keeps.refl _ _) (fun _ h=>h) fun a _ g h=>⟨h.1,h.2.mono (Keeps.refl _ _) (fun _ h=>h) fun x _ f h=>⟨n,h⟩⟩⟩
 ·rintro ⟨h0,h1,h2,h3⟩
  obtain ⟨n1,g1⟩:=RdSl.fuel RdSt.up h1
  obtain ⟨n2,g2⟩:=RdSl.fuel RdSt.up h2
  have h3' : RdSl w S 3 (fun a g=>∃ n,ArHead a g ∧ RdSl w S 15 (RdSt w S n) a.body (g 2)) t.arms (f 13):=h3.mono (Keeps.refl _ _) (fun _ h=>h) fun a _ g h=>by
   obtain ⟨n,hn⟩:=RdSl.fuel RdSt.up h.2
   exact ⟨n,h.1,hn⟩
  obtain ⟨n3,g3⟩:=RdSl.fuel (R:=fun n a g=>ArHead a g ∧ RdSl w S 15 (RdSt w S n) a.body (g 2)) (fun n a g h=>⟨h.1,h.2.mono (Keeps.refl _ _) (fun _ h=>h) fun x _ f h=>RdSt.up n x f h⟩) h3'
  refine ⟨n1 + n2 + n3 + 1,h0,g1.mono (Keeps.refl _ _) (fun _ h=>h) fun x _ f h=>?_,g2.mono (Keeps.refl _ _) (fun _ h=>h) fun x _ f h=>?_,g3.mono (Keeps.refl _ _) (fun _ h=>h) fun a _ g h=>⟨h.1,h.2.mono (Keeps.refl _ _) (fun _ h=>h) fun x _ f h=>?_⟩⟩
  ·exact (show n1 + (n2 + n3) = n1 + n2 + n3 by omega) ▸ h.ups (n2 + n3)
  ·exact (show n2 + (n1 + n3) = n1 + n2 + n3 by omega) ▸ h.ups (n1 + n3)
  ·exact (show n3 + (n1 + n2) = n1 + n2 + n3 by omega) ▸ h.ups (n1 + n2)
structure Fi where
 name : ByteArray
 type : Ty
def FiIn (w : World) (S : Nat → Prop) (x : Fi) (f : Nat → Value) : Prop:=f 0 = .string x.name ∧ x.name.size ≤ maxLen ∧ TyIn w S x.type (fun j=>f (1 + j))
theorem FiIn.mono {w w' : World} {S S' : Nat → Prop} {t : Fi} {f : Nat → Value} (h : FiIn w S t f) (hw : Keeps S w w') (hS : ∀ b,S b → S' b) : FiIn w' S' t f:=⟨h.1,h.2.1,h.2.2.mono hw hS⟩
structure It where
 kind : Int
 name : ByteArray
 fields : List Fi
 result : Ty
 body : List St
 ret : Ex
 pos : Int
def ItIn (w : World) (S : Nat → Prop) (x : It) (f : Nat → Value) : Prop :=
 f 0 = .int .u8 x.kind ∧ (0 ≤ x.kind ∧ x.kind ≤ 255) ∧ f 1 = .string x.name ∧ x.name.size ≤ maxLen ∧ RdSl w S 4 (FiIn w S) x.fields (f 2) ∧ TyIn w S x.result (fun j=>f (3 + j)) ∧
  RdSl w S 15 (StIn w S) x.body (f 6) ∧ ExIn w S x.ret (fun j=>f (7 + j)) ∧ f 15 = .int .i64 x.pos ∧ i64 x.pos
theorem ItIn.mono {w w' : World} {S S' : Nat → Prop} {t : It} {f : Nat → Value} (h : ItIn w S t f) (hw : Keeps S w w') (hS : ∀ b,S b → S' b) : ItIn w' S' t f:=by
 obtain ⟨a,b,c,d,e,g,h,i,j,k⟩:=h
 exact ⟨a,b,c,d,e.mono hw hS fun _ _ _ h=>h.mono hw hS,g.mono hw hS,h.mono hw hS fun _ _ _ h=>h.mono hw hS,i.mono hw hS,j,k⟩
def PrIn (w : World) (S : Nat → Prop) (p : List It) (v : Value) : Prop:=RdSl w S 16 (ItIn w S) p v
theorem PrIn.mono {w w' : World} {S S' : Nat → Prop} {p : List It} {v : Value} (h : PrIn w S p v) (hw : Keeps S w w') (hS : ∀ b,S b → S' b) : PrIn w' S' p v:=RdSl.mono h hw hS fun _ _ _ h=>h.mono hw hS
theorem RdSl.one {α : Type} {w : World} {S : Nat → Prop} {size : Nat} {R : α → (Nat → Value) → Prop} {l : List α} {v : Value} (h : RdSl w S size R l v) : v.oneCell' = true:=by
 obtain ⟨A,cap,rfl,_⟩:=h; rfl
theorem PlIn.one {w : World} {S : Nat → Prop} {t : Pl} {f : Nat → Value} (h : PlIn w S t f) : ∀ j,j < 2 → (f j).oneCell' = true:=by
 obtain ⟨h0,_,h2⟩:=h
 intro j hj
 match j,hj with
 | 0,_=>rw [h0]; rfl
 | 1,_=>exact h2.one
theorem ExIn.one {w : World} {S : Nat → Prop} {t : Ex} {f : Nat → Value} (h : ExIn w S t f) : ∀ j,j < 8 → (f j).oneCell' = true:=by
 obtain ⟨⟨h0,_,h1,_,h2,_,h3,_,h4,h7,_⟩,h6⟩:=ExIn.iff.1 h
 intro j hj
 match j,hj with
 | 0,_=>rw [h0]; rfl
 | 1,_=>rw [h1]; rfl
 | 2,_=>rw [h2]; rfl
 | 3,_=>rw [h3]; rfl
 | 4,_=>exact h4.one 0 (by omega)
 | 5,_=>exact h4.one 1 (by omega)
 | 6,_=>exact h6.one
 | 7,_=>rw [h7]; rfl
theorem StIn.one {w : World} {S : Nat → Prop} {t : St} {f : Nat → Value} (h : StIn w S t f) : ∀ j,j < 15 → (f j).oneCell' = true:=by
 obtain ⟨⟨h0,_,h1,_,h2,_,h3,h4,h7,_,h8,h10,h14,_⟩,h11,h12,h13⟩:=StIn.iff.1 h
 intro j hj
 match j,hj with
 | 0,_=>rw [h0]; rfl
 | 1,_=>rw [h1]; rfl
 | 2,_=>rw [h2]; rfl
 | 3,_=>exact h3.one
 | 4,_=>exact h4.one 0 (by omega)
 | 5,_=>exact h4.one 1 (by omega)
 | 6,_=>exact h4.one 2 (by omega)
 | 7,_=>rw [h7]; rfl
 | 8,_=>exact h8.one 0 (by omega)
 | 9,_=>exact h8.one 1 (by omega)
 | 10,_=>exact h10.one
 | 11,_=>exact h11.one
 | 12,_=>exact h12.one
 | 13,_=>exact h13.one
 | 14,_=>rw [h14]; rfl
theorem ArIn.one {w : World} {S : Nat → Prop} {t : Ar} {f : Nat → Value} (h : ArIn w S t f) : ∀ j,j < 3 → (f j).oneCell' = true:=by
 obtain ⟨⟨h0,_,h1,_⟩,h2⟩:=h
 intro j hj
 match j,hj with
 | 0,_=>rw [h0]; rfl
 | 1,_=>rw [h1]; rfl
 | 2,_=>exact h2.one
theorem FiIn.one {w : World} {S : Nat → Prop} {t : Fi} {f : Nat → Value} (h : FiIn w S t f) : ∀ j,j < 4 → (f j).oneCell' = true:=by
 obtain ⟨h0,_,h2⟩:=h
 intro j hj
 match j,hj with
 | 0,_=>rw [h0]; rfl
 | 1,_=>exact h2.one 0 (by omega)
 | 2,_=>exact h2.one 1 (by omega)
 | 3,_=>exact h2.one 2 (by omega)
theorem ItIn.one {w : World} {S : Nat → Prop} {t : It} {f : Nat → Value} (h : ItIn w S t f) : ∀ j,j < 16 → (f j).oneCell' = true:=by
 obtain ⟨h0,_,h1,_,h2,h3,h6,h7,h15,_⟩:=h
 intro j hj
 match j,hj with
 | 0,_=>rw [h0]; rfl
 | 1,_=>rw [h1]; rfl
 | 2,_=>exact h2.one
 | 3,_=>exact h3.one 0 (by omega)
 | 4,_=>exact h3.one 1 (by omega)
 | 5,_=>exact h3.one 2 (by omega)
 | 6,_=>exact h6.one
 | 7,_=>exact h7.one 0 (by omega)
 | 8,_=>exact h7.one 1 (by omega)
 | 9,_=>exact h7.one 2 (by omega)
 | 10,_=>exact h7.one 3 (by omega)
 | 11,_=>exact h7.one 4 (by omega)
 | 12,_=>exact h7.one 5 (by omega)
 | 13,_=>exact h7.one 6 (by omega)
 | 14,_=>exact h7.one 7 (by omega)
 | 15,_=>rw [h15]; rfl
 | k + 16,h=>exact absurd h (by omega)
theorem all_true {α : Type} {p : α → Bool} {l : List α} (h : ∀ i,(hi : i < l.length) → p l[i] = true) : l.all p = true:=by
 rw [List.all_eq_true]
 intro x hx
 obtain ⟨i,hi,rfl⟩:=List.getElem_of_mem hx
 exact h i hi
def AllTo {α : Type} (p : α → Prop) (l : List α) (q : Nat) : Prop:=∀ i,(hi : i < l.length) → i < q → p l[i]
theorem AllTo.zero {α : Type} (p : α → Prop) (l : List α) : AllTo p l 0:=fun i _ h=>by omega
theorem AllTo.succ {α : Type} {p : α → Prop} {l : List α} {q : Nat} (h : AllTo p l q) (hq : q < l.length) (hp : p l[q]) : AllTo p l (q + 1):=fun i hi hlt=>by
 rcases Nat.lt_or_ge i q with h1 | h1
 ·exact h i hi h1
 ·obtain rfl : i = q:=by omega
  exact hp
theorem AllTo.all {α : Type} {p : α → Bool} {l : List α} {q : Nat} (h : AllTo (fun x=>p x = true) l q) (hq : l.length ≤ q) : l.all p = true:=all_true fun i hi=>h i hi (by omega)
end Go.Proofs.YtfiohepfohhibaaDoor
namespace Go.Proofs.YtfiohepfohhibaaDoor
open Go.RowKit
def tabList : List (Nat × List Value):=[(1,Lib.asciiSpaceTab.map fun z=>Value.int .u8 z)]
def isOwn (s : String) (t : Nat) : Bool:=(s == "outright.go:110" && t == 36) || (s == "names.go:86" && t == 26) || (s == "ref.go:312" && t == 26)
end Go.Proofs.YtfiohepfohhibaaDoor
namespace Go.Proofs.YtfiohepfohhibaaDoor
open Go.RowKit
def atom : Value → Bool
 | .bool _=>true
 | .int _ _=>true
 | .string _=>true
 | .nilFunc=>true
 | .nilIface=>true
 | .slice none 0 0=>true
 | .pointer none=>true
 | .map none=>true
 | .iface _ _=>true
 | _=>false
theorem oneCell_atom {x : Value} (h : atom x = true) : x.oneCell' = true:=by
 unfold atom at h
 split at h <;> first | rfl | cases h
inductive PV where
 | v (x : Value)
 | sl (k : Nat) (rows : List (List PV))
 | fsl (k : Nat) (rows : List (List PV))
abbrev Prot:=Nat → Nat → Option Value
def Prot.le (a b : Prot) : Prop:=∀ g o v,a g o = some v → b g o = some v
theorem Prot.le_refl (a : Prot) : a.le a:=fun _ _ _ h=>h
theorem Prot.le_trans {a b c : Prot} (h : a.le b) (k : b.le c) : a.le c:=fun g o v hv=>k g o v (h g o v hv)
inductive RP (Pr : Prot) : PV → Value → Prop
 | v {x : Value} : atom x = true → RP Pr (.v x) x
 | slemp (k : Nat) (A : Option Addr) (cap : Nat) : cap ≤ maxLen → RP Pr (.sl k []) (.slice A 0 cap)
 | sl {rows : List (List PV)} {b off cap k : Nat} (vs : Nat → Nat → Value) : rows.length ≤ cap → cap ≤ maxLen → (∀ (r : Nat) (row : List PV),rows[r]? = some row → row.length = k) →
   (∀ (r : Nat) (row : List PV) (j : Nat) (p : PV),rows[r]? = some row → row[j]? = some p → Pr b (off + r * k + j) = some (vs r j)) → (∀ (r : Nat) (row : List PV) (j : Nat) (p : PV),rows[r]? = some row → row[j]? = some p → RP Pr p (vs r j)) →
   RP Pr (.sl k rows) (.slice (some ⟨b,off,none⟩) rows.length cap)
 | fsl {rows : List (List PV)} {A : Option Addr} {cap k : Nat} : RP Pr (.sl k rows) (.slice A rows.length cap) → RP Pr (.fsl k rows) (.slice A rows.length rows.length)
theorem RP.mono {Pr Pr' : Prot} (hl : Pr.le Pr') {p : PV} {x : Value} (h : RP Pr p x) : RP Pr' p x:=by
 induction h with
 | v h=>exact .v h
 | slemp k A cap h=>exact .slemp k A cap h
 | sl vs h1 h2 h3 h4 _ ih=>exact .sl vs h1 h2 h3 (fun r row j p a b=>hl _ _ _ (h4 r row j p a b)) ih
 | fsl _ ih=>exact .fsl ih
theorem RP.one {Pr : Prot} {p : PV} {x : Value} (h : RP Pr p x) : x.oneCell' = true:=by
 cases h with
 | v h=>exact oneCell_atom h
 | slemp k A cap h=>rfl
 | sl=>rfl
 | fsl=>rfl
structure Ent where
 tok : Bool
 blk : Option Nat
 cap : Nat
 n : Nat
 k : Nat
abbrev Fi2:=List (List Ent)
def get2 {α : Type} (φ : List (List α)) (d i : Nat) : Option α:=(φ[d]?).bind (·[i]?)
def Ent.le (e e' : Ent) : Prop:=e = e' ∨ (e.tok = true ∧ e'.tok = true ∧ e.n < e'.n ∧ e.k = e'.k)
theorem Ent.le_refl (e : Ent) : e.le e:=.inl rfl
theorem Ent.le_trans {a b c : Ent} (h : a.le b) (k : b.le c) : a.le c:=by
 rcases h with rfl | ⟨h1,h2,h3,h4⟩
 ·exact k
 ·rcases k with rfl | ⟨k1,k2,k3,k4⟩
  ·exact .inr ⟨h1,h2,h3,h4⟩
  ·exact .inr ⟨h1,k2,by omega,h4.trans k4⟩
def Fle (φ φ' : Fi2) : Prop:=∀ d i e,get2 φ d i = some e → ∃ e',get2 φ' d i = some e' ∧ e.le e'
theorem Fle.refl (φ : Fi2) : Fle φ φ:=fun _ _ e h=>⟨e,h,e.le_refl⟩
theorem Fle.trans {a b c : Fi2} (h : Fle a b) (k : Fle b c) : Fle a c:=fun d i e he=>by
 obtain ⟨e',h1,h2⟩:=h d i e he
 obtain ⟨e'',h3,h4⟩:=k d i e' h1
 exact ⟨e'',h3,Ent.le_trans h2 h4⟩
inductive AV where
 | any
 | un
 | bl
 | p (x : PV)
 | ptr (d i o : Nat)
 | mp (d i : Nat)
 | asl (d i n k : Nat)
 | rsl (d i n k : Nat)
 | rptr (d i n o : Nat)
 | rp (cells : List PV)
 | bx (cells : List AV)
 | osl (k : Nat) (rows : List (List PV)) (d i : Nat)
 | agg (cs : List AV)
 | tup (cs : List AV)
 | fn (f : Fn) (first captured : List AV)
inductive RA (Pr : Prot) (φ : Fi2) : AV → Value → Prop
 | any (x : Value) : RA Pr φ .any x
 | un : RA Pr φ .un undef
 | bl (b : Bool) : RA Pr φ .bl (.bool b)
 | p {q : PV} {x : Value} : RP Pr q x → RA Pr φ (.p q) x
 | ptr {d i o g : Nat} {e : Ent} : get2 φ d i = some e → e.tok = false → e.blk = some g → RA Pr φ (.ptr d i o) (.pointer (some ⟨g,o,none⟩))
 | mp {d i g : Nat} {e : Ent} : get2 φ d i = some e → e.tok = false → e.blk = some g → RA Pr φ (.mp d i) (.map (some g))
 | asl {d i n k g : Nat} {e : Ent} : get2 φ d i = some e → e.tok = false → e.blk = some g → n ≤ maxLen → RA Pr φ (.asl d i n k) (.slice (some ⟨g,0,none⟩) n n)
 | rnil {d i : Nat} {e : Ent} : get2 φ d i = some e → e.tok = true → (e.n = 0 → e.blk = none) → RA Pr φ (.rsl d i 0 e.k) (.slice none 0 0)
 | rsl {d i n g cap : Nat} {e : Ent} : get2 φ d i = some e → e.tok = true → 0 < n → n ≤ e.n → (n = e.n → e.blk = some g ∧ e.cap = cap) → n ≤ cap → cap ≤ maxLen → RA Pr φ (.rsl d i n e.k) (.slice (some ⟨g,0,none⟩) n cap)
 | rptr {d i n o g : Nat} {e : Ent} : get2 φ d i = some e → e.tok = true → n ≤ e.n → (n = e.n → e.blk = some g) → RA Pr φ (.rptr d i n o) (.pointer (some ⟨g,o,none⟩))
 | rp {cells : List PV} {b off : Nat} (vs : Nat → Value) : (∀ (j : Nat) (p : PV),cells[j]? = some p → Pr b (off + j) = some (vs j)) → (∀ (j : Nat) (p : PV),cells[j]? = some p → RP Pr p (vs j)) → RA Pr φ (.rp cells) (.pointer (some ⟨b,off,none⟩))
 | bx {cells : List AV} {b off : Nat} (vs : Nat → Value) : (∀ (j : Nat) (c : AV),cells[j]? = some c → Pr b (off + j) = some (vs j)) → (∀ (j : Nat) (c : AV),cells[j]? = some c → RA Pr φ c (vs j)) → RA Pr φ (.bx cells) (.pointer (some ⟨b,off,none⟩))
 | onil {d i : Nat} {e : Ent} : get2 φ d i = some e → e.tok = true → (e.n = 0 → e.blk = none) → RA Pr φ (.osl e.k [] d i) (.slice none 0 0)
 | osl {rows : List (List PV)} {d i g cap : Nat} {e : Ent} (vs : Nat → Nat → Value) : get2 φ d i = some e → e.tok = true → 0 < rows.length → rows.length ≤ e.n → (rows.length = e.n → e.blk = some g ∧ e.cap = cap) →
   rows.length ≤ cap → cap ≤ maxLen → (∀ (r : Nat) (row : List PV),rows[r]? = some row → row.length = e.k) →
   (∀ (r : Nat) (row : List PV) (j : Nat) (p : PV),rows[r]? = some row → row[j]? = some p → Pr g (r * e.k + j) = some (vs r j)) → (∀ (r : Nat) (row : List PV) (j : Nat) (p : PV),rows[r]? = some row → row[j]? = some p → RP Pr p (vs r j)) →
   RA Pr φ (.osl e.k rows d i) (.slice (some ⟨g,0,none⟩) rows.length cap)
 | agg {cs : List AV} {xs : Array Value} : cs.length = xs.size → (∀ (j : Nat) (c : AV) (x : Value),cs[j]? = some c → xs[j]? = some x → RA Pr φ c x) → RA Pr φ (.agg cs) (.agg xs)
 | tup {cs : List AV} {xs : Array Value} : cs.length = xs.size → (∀ (j : Nat) (c : AV) (x : Value),cs[j]? = some c → xs[j]? = some x → RA Pr φ c x) → RA Pr φ (.tup cs) (.tuple xs)
 | fn {f : Fn} {as bs : List AV} {xs ys : Array Value} : as.length = xs.size → bs.length = ys.size → (∀ (j : Nat) (c : AV) (x : Value),as[j]? = some c → xs[j]? = some x → RA Pr φ c x) → (∀ (j : Nat) (c : AV) (x : Value),bs[j]? = some c → ys[j]? = some x → RA Pr φ c x) →
   RA Pr φ (.fn f as bs) (.func f xs ys)
theorem RA.mono {Pr Pr' : Prot} {φ φ' : Fi2} (hl : Pr.le Pr') (hf : Fle φ φ') {v : AV} {x : Value} (h : RA Pr φ v x) : RA Pr' φ' v x:=by
 induction h with
 | any x=>exact .any x
 | un=>exact .un
 | bl b=>exact .bl b
 | p h=>exact .p (h.mono hl)
 | ptr h1 h2 h3 =>
  obtain ⟨e',k1,k2⟩:=hf _ _ _ h1
  rcases k2 with rfl | ⟨k2,_,_,_⟩
  ·exact .ptr k1 h2 h3
  ·rw [h2] at k2; cases k2
 | mp h1 h2 h3 =>
  obtain ⟨e',k1,k2⟩:=hf _ _ _ h1
  rcases k2 with rfl | ⟨k2,_,_,_⟩
  ·exact .mp k1 h2 h3
  ·rw [h2] at k2; cases k2
 | asl h1 h2 h3 h4 =>
  obtain ⟨e',k1,k2⟩:=hf _ _ _ h1
  rcases k2 with rfl | ⟨k2,_,_,_⟩
  ·exact .asl k1 h2 h3 h4
  ·rw [h2] at k2; cases k2
 | rnil h1 h2 h3 =>
  obtain ⟨e',k1,k2⟩:=hf _ _ _ h1
  rcases k2 with rfl | ⟨_,k2,k3,k4⟩
  ·exact .rnil k1 h2 h3
  ·rw [k4]; exact .rnil k1 k2 (fun h=>by omega)
 | rsl h1 h2 h3 h4 h5 h6 h7 =>
  obtain ⟨e',k1,k2⟩:=hf _ _ _ h1
  rcases k2 with rfl | ⟨_,k2,k3,k4⟩
  ·exact .rsl k1 h2 h3 h4 h5 h6 h7
  ·rw [k4]; exact .rsl k1 k2 h3 (by omega) (fun h=>by omega) h6 h7
 | rptr h1 h2 h3 h4 =>
  obtain ⟨e',k1,k2⟩:=hf _ _ _ h1
  rcases k2 with rfl | ⟨_,k2,k3,k4⟩
  ·exact .rptr k1 h2 h3 h4
  ·exact .rptr k1 k2 (by omega) (fun h=>by omega)
 | rp vs h1 h2=>exact .rp vs (fun j p h=>hl _ _ _ (h1 j p h)) (fun j p h=>(h2 j p h).mono hl)
 | bx vs h1 _ ih=>exact .bx vs (fun j c h=>hl _ _ _ (h1 j c h)) ih
 | onil h1 h2 h3 =>
  obtain ⟨e',k1,k2⟩:=hf _ _ _ h1
  rcases k2 with rfl | ⟨_,k2,k3,k4⟩
  ·exact .onil k1 h2 h3
  ·rw [k4]; exact .onil k1 k2 (fun h=>by omega)
 | osl vs h1 h2 h3 h4 h5 h6 h7 h8 h9 h10 =>
  obtain ⟨e',k1,k2⟩:=hf _ _ _ h1
  rcases k2 with rfl | ⟨_,k2,k3,k4⟩
  ·exact .osl vs k1 h2 h3 h4 h5 h6 h7 h8 (fun r row j p a b=>hl _ _ _ (h9 r row j p a b)) (fun r row j p a b=>(h10 r row j p a b).mono hl)
  ·rw [k4] at h8 h9 ⊢; exact .osl vs k1 k2 h3 (by omega) (fun h=>by omega) h6 h7 h8 (fun r row j p a b=>hl _ _ _ (h9 r row j p a b)) (fun r row j p a b=>(h10 r row j p a b).mono hl)
 | agg h1 _ ih=>exact .agg h1 ih
 | tup h1 _ ih=>exact .tup h1 ih
 | fn h1 h2 _ _ ih1 ih2=>exact .fn h1 h2 ih1 ih2
mutual
def AV.up (k : Nat) : AV → AV
 | .ptr d i o=>.ptr (d + k) i o
 | .mp d i=>.mp (d + k) i
 | .asl d i n m=>.asl (d + k) i n m
 | .rsl d i n m=>.rsl (d + k) i n m
 | .rptr d i n o=>.rptr (d + k) i n o
 | .osl m rows d i=>.osl m rows (d + k) i
 | .agg cs=>.agg (AV.ups k cs)
 | .tup cs=>.tup (AV.ups k cs)
 | .fn f as bs=>.fn f (AV.ups k as) (AV.ups k bs)
 | .bx cs=>.bx (AV.ups k cs)
 | .any=>.any
 | .un=>.un
 | .bl=>.bl
 | .p q=>.p q
 | .rp cs=>.rp cs
def AV.ups (k : Nat) : List AV → List AV
 | []=>[]
 | c :: cs=>c.up k :: AV.ups k cs
end
theorem ups_get (k : Nat) : ∀ (cs : List AV) (j : Nat),(AV.ups k cs)[j]? = (cs[j]?).map (AV.up k)
 | [],j=>by simp [AV.ups]
 | c :: cs,0=>by simp [AV.ups]
 | c :: cs,j + 1=>by simp [AV.ups,ups_get k cs j]
theorem ups_len (k : Nat) (cs : List AV) : (AV.ups k cs).length = cs.length:=by
 induction cs with
 | nil=>rfl
 | cons c cs ih=>simp [AV.ups,ih]
theorem get2_drop {α : Type} (φ : List (List α)) (k d i : Nat) : get2 (φ.drop k) d i = get2 φ (d + k) i:=by
 unfold get2; rw [List.getElem?_drop,Nat.add_comm]
theorem RA.up {Pr : Prot} {φ : Fi2} {k : Nat} {v : AV} {x : Value} (h : RA Pr (φ.drop k) v x) : RA Pr φ (v.up k) x:=by
 induction h with
 | any x=>exact .any x
 | un=>exact .un
 | bl b=>exact .bl b
 | p h=>exact .p h
 | ptr h1 h2 h3=>exact .ptr (by rw [← get2_drop]; exact h1) h2 h3
 | mp h1 h2 h3=>exact .mp (by rw [← get2_drop]; exact h1) h2 h3
 | asl h1 h2 h3 h4=>exact .asl (by rw [← get2_drop]; exact h1) h2 h3 h4
 | rnil h1 h2 h3=>exact .rnil (by rw [← get2_drop]; exact h1) h2 h3
 | rsl h1 h2 h3 h4 h5 h6 h7=>exact .rsl (by rw [← get2_drop]; exact h1) h2 h3 h4 h5 h6 h7
 | rptr h1 h2 h3 h4=>exact .rptr (by rw [← get2_drop]; exact h1) h2 h3 h4
 | rp vs h1 h2=>exact .rp vs h1 h2
 | bx vs h1 _ ih =>
  refine .bx vs (fun j c hc=>?_) (fun j c hc=>?_)
  ·rw [ups_get] at hc
   obtain ⟨c',h,rfl⟩:=Option.map_eq_some_iff.1 hc
   exact h1 j c' h
  ·rw [ups_get] at hc
   obtain ⟨c',h,rfl⟩:=Option.map_eq_some_iff.1 hc
   exact ih j c' h
 | onil h1 h2 h3=>exact .onil (by rw [← get2_drop]; exact h1) h2 h3
 | osl vs h1 h2 h3 h4 h5 h6 h7 h8 h9 h10=>exact .osl vs (by rw [← get2_drop]; exact h1) h2 h3 h4 h5 h6 h7 h8 h9 h10
 | agg h1 _ ih =>
  refine .agg (by rw [ups_len]; exact h1) fun j c x hc hx=>?_
  rw [ups_get] at hc
  obtain ⟨c',h,rfl⟩:=Option.map_eq_some_iff.1 hc
  exact ih j c' x h hx
 | tup h1 _ ih =>
  refine .tup (by rw [ups_len]; exact h1) fun j c x hc hx=>?_
  rw [ups_get] at hc
  obtain ⟨c',h,rfl⟩:=Option.map_eq_some_iff.1 hc
  exact ih j c' x h hx
 | fn h1 h2 _ _ ih1 ih2 =>
  refine .fn (by rw [ups_len]; exact h1) (by rw [ups_len]; exact h2) (fun j c x hc hx=>?_) (fun j c x hc hx=>?_)
  ·rw [ups_get] at hc
   obtain ⟨c',h,rfl⟩:=Option.map_eq_some_iff.1 hc
   exact ih1 j c' x h hx
  ·rw [ups_get] at hc
   obtain ⟨c',h,rfl⟩:=Option.map_eq_some_iff.1 hc
   exact ih2 j c' x h hx
theorem RA.sl {Pr : Prot} {φ : Fi2} {k : Nat} {rows : List (List PV)} {d i : Nat} {x : Value} (h : RA Pr φ (.osl k rows d i) x) : RP Pr (.sl k rows) x:=by
 cases h with
 | onil=>exact .slemp _ none 0 (Nat.zero_le _)
 | osl vs h1 h2 h3 h4 h5 h6 h7 h8 h9 h10=>exact .sl (off:=0) vs h6 h7 h8 (fun r row j p a b=>by rw [Nat.zero_add]; exact h9 r row j p a b) h10
mutual
def AV.down (k : Nat) : AV → Option AV
 | .ptr d i o=>if k ≤ d then some (.ptr (d - k) i o) else none
 | .mp d i=>if k ≤ d then some (.mp (d - k) i) else none
 | .asl d i n m=>if k ≤ d then some (.asl (d - k) i n m) else none
 | .rsl d i n m=>if k ≤ d then some (.rsl (d - k) i n m) else none
 | .rptr d i n o=>if k ≤ d then some (.rptr (d - k) i n o) else none
 | .osl m rows d i=>if k ≤ d then some (.osl m rows (d - k) i) else some (.p (.sl m rows))
 | .agg cs=>(AV.downs k cs).map .agg
 | .tup cs=>(AV.downs k cs).map .tup
 | .fn f as bs=>(AV.downs k as).bind fun a=>(AV.downs k bs).map fun b=>.fn f a b
 | .bx cs=>(AV.downs k cs).map .bx
 | .any=>some .any
 | .un=>some .un
 | .bl=>some .bl
 | .p q=>some (.p q)
 | .rp cs=>some (.rp cs)
def AV.downs (k : Nat) : List AV → Option (List AV)
 | []=>some []
 | c :: cs=>(c.down k).bind fun c'=>(AV.downs k cs).map fun cs'=>c' :: cs'
end
theorem downs_get (k : Nat) : ∀ (cs cs' : List AV),AV.downs k cs = some cs' → cs'.length = cs.length ∧ ∀ (j : Nat) (c : AV),cs'[j]? = some c → ∃ c0 : AV,cs[j]? = some c0 ∧ c0.down k = some c
 | [],cs',h=>by simp [AV.downs] at h; subst h; exact ⟨rfl,fun j c h=>by simp at h⟩
 | c :: cs,cs',h=>by
  simp only [AV.downs,Option.bind_eq_some_iff,Option.map_eq_some_iff] at h
  obtain ⟨c1,h1,cs1,h2,rfl⟩:=h
  obtain ⟨h3,h4⟩:=downs_get k cs cs1 h2
  refine ⟨by simp [h3],fun j c' hc=>?_⟩
  cases j with
  | zero=>simp at hc; subst hc; exact ⟨c,rfl,h1⟩
  | succ j=>simp at hc; simpa using h4 j c' hc
theorem RA.down {Pr : Prot} {φ : Fi2} {k : Nat} {v : AV} {x : Value} (h : RA Pr φ v x) : ∀ v',v.down k = some v' → RA Pr (φ.drop k) v' x:=by
 induction h with
 | any x=>intro v' h; simp [AV.down] at h; subst h; exact .any x
 | un=>intro v' h; simp [AV.down] at h; subst h; exact .un
 | bl b=>intro v' h; simp [AV.down] at h; subst h; exact .bl b
 | p h=>intro v' h'; simp [AV.down] at h'; subst h'; exact .p h
 | ptr h1 h2 h3 =>
  intro v' h
  simp only [AV.down] at h
  split at h
  ·cases h; exact .ptr (by rw [get2_drop,Nat.sub_add_cancel (by assumption)]; exact h1) h2 h3
  ·cases h
 | mp h1 h2 h3 =>
  intro v' h
  simp only [AV.down] at h
  split at h
  ·cases h; exact .mp (by rw [get2_drop,Nat.sub_add_cancel (by assumption)]; exact h1) h2 h3
  ·cases h
 | asl h1 h2 h3 h4 =>
  intro v' h
  simp only [AV.down] at h
  split at h
  ·cases h; exact .asl (by rw [get2_drop,Nat.sub_add_cancel (by assumption)]; exact h1) h2 h3 h4
  ·cases h
 | rnil h1 h2 h3 =>
  intro v' h
  simp only [AV.down] at h
  split at h
  ·cases h; exact .rnil (by rw [get2_drop,Nat.sub_add_cancel (by assumption)]; exact h1) h2 h3
  ·cases h
 | rsl h1 h2 h3 h4 h5 h6 h7 =>
  intro v' h
  simp only [AV.down] at h
  split at h
  ·cases h; exact .rsl (by rw [get2_drop,Nat.sub_add_cancel (by assumption)]; exact h1) h2 h3 h4 h5 h6 h7
  ·cases h
 | rptr h1 h2 h3 h4 =>
  intro v' h
  simp only [AV.down] at h
  split at h
  ·cases h; exact .rptr (by rw [get2_drop,Nat.sub_add_cancel (by assumption)]; exact h1) h2 h3 h4
  ·cases h
 | rp vs h1 h2=>intro v' h; simp [AV.down] at h; subst h; exact .rp vs h1 h2
 | bx vs h1 _ ih =>
  intro v' h
  simp only [AV.down,Option.map_eq_some_iff] at h
  obtain ⟨cs',h,rfl⟩:=h
  obtain ⟨h3,h4⟩:=downs_get k _ _ h
  refine .bx vs (fun j c hc=>?_) (fun j c hc=>?_)
  ·obtain ⟨c0,k1,k2⟩:=h4 j c hc
   exact h1 j c0 k1
  ·obtain ⟨c0,k1,k2⟩:=h4 j c hc
   exact ih j c0 k1 c k2
 | onil h1 h2 h3 =>
  intro v' h
  simp only [AV.down] at h
  split at h
  ·cases h; exact .onil (by rw [get2_drop,Nat.sub_add_cancel (by assumption)]; exact h1) h2 h3
  ·cases h; exact .p (.slemp _ none 0 (Nat.zero_le _))
 | osl vs h1 h2 h3 h4 h5 h6 h7 h8 h9 h10 =>
  intro v' h
  simp only [AV.down] at h
  split at h
  ·cases h; exact .osl vs (by rw [get2_drop,Nat.sub_add_cancel (by assumption)]; exact h1) h2 h3 h4 h5 h6 h7 h8 h9 h10
  ·cases h; exact .p (RA.sl (.osl vs h1 h2 h3 h4 h5 h6 h7 h8 h9 h10))
 | agg h1 _ ih =>
  intro v' h
  simp only [AV.down,Option.map_eq_some_iff] at h
  obtain ⟨cs',h,rfl⟩:=h
  obtain ⟨h3,h4⟩:=downs_get k _ _ h
  refine .agg (by rw [h3]; exact h1) fun j c x hc hx=>?_
  obtain ⟨c0,k1,k2⟩:=h4 j c hc
  exact ih j c0 x k1 hx c k2
 | tup h1 _ ih =>
  intro v' h
  simp only [AV.down,Option.map_eq_some_iff] at h
  obtain ⟨cs',h,rfl⟩:=h
  obtain ⟨h3,h4⟩:=downs_get k _ _ h
  refine .tup (by rw [h3]; exact h1) fun j c x hc hx=>?_
  obtain ⟨c0,k1,k2⟩:=h4 j c hc
  exact ih j c0 x k1 hx c k2
 | fn h1 h2 _ _ ih1 ih2 =>
  intro v' h
  simp only [AV.down,Option.bind_eq_some_iff,Option.map_eq_some_iff] at h
  obtain ⟨as',ha,bs',hb,rfl⟩:=h
  obtain ⟨h3,h4⟩:=downs_get k _ _ ha
  obtain ⟨h5,h6⟩:=downs_get k _ _ hb
  refine .fn (by rw [h3]; exact h1) (by rw [h5]; exact h2) (fun j c x hc hx=>?_) (fun j c x hc hx=>?_)
  ·obtain ⟨c0,k1,k2⟩:=h4 j c hc
   exact ih1 j c0 x k1 hx c k2
  ·obtain ⟨c0,k1,k2⟩:=h6 j c hc
   exact ih2 j c0 x k1 hx c k2
def AV.toP : AV → Option PV
 | .p q=>some q
 | .osl k rows _ _=>some (.sl k rows)
 | _=>none
theorem RA.toP {Pr : Prot} {φ : Fi2} {v : AV} {x : Value} (h : RA Pr φ v x) {q : PV} (hq : v.toP = some q) : RP Pr q x:=by
 cases h with
 | p h=>simp [AV.toP] at hq; subst hq; exact h
 | onil=>simp [AV.toP] at hq; subst hq; exact .slemp _ none 0 (Nat.zero_le _)
 | osl vs h1 h2 h3 h4 h5 h6 h7 h8 h9 h10=>simp [AV.toP] at hq; subst hq; exact RA.sl (.osl vs h1 h2 h3 h4 h5 h6 h7 h8 h9 h10)
 | _=>simp [AV.toP] at hq
end Go.Proofs.YtfiohepfohhibaaDoor
namespace Go.Proofs.YtfiohepfohhibaaDoor
open Go.RowKit
inductive AObj where
 | dead
 | cells (cs : List AV) (t : TypeId)
 | tok (e : TypeId) (k n : Nat)
 | map (es : List (Value × AV))
 | row (e : TypeId) (k n : Nat) (cs : List AV)
 | raw (l : Nat) (ob : Obj) (cs : List AV) (xs : Array Value)
abbrev ASt:=List (List AObj)
def add2 {α : Type} (o : α) : List (List α) → List (List α)
 | L :: R=>(L ++ [o]) :: R
 | []=>[[o]]
def set2 {α : Type} (S : List (List α)) (d i : Nat) (o : α) : List (List α):=S.set d ((S.getD d []).set i o)
def top {α : Type} : List (List α) → Nat
 | L :: _=>L.length
 | []=>0
theorem get2_add {α : Type} (S : List (List α)) (o : α) (d i : Nat) : get2 (add2 o S) d i = if d = 0 ∧ i = top S then some o else get2 S d i:=by
 cases S with
 | nil =>
  cases d with
  | zero=>cases i <;> simp [get2,add2,top]
  | succ d=>simp [get2,add2]
 | cons L R =>
  cases d with
  | zero =>
   simp only [get2,add2,top,List.getElem?_cons_zero,Option.bind_some,true_and]
   rcases Nat.lt_trichotomy i L.length with h | h | h
   ·rw [List.getElem?_append_left h,if_neg (by omega)]
   ·subst h; simp
   ·rw [if_neg (by omega),List.getElem?_eq_none (by simp; omega),List.getElem?_eq_none (by omega)]
  | succ d=>simp [get2,add2]
theorem get2_add_new {α : Type} (S : List (List α)) (o : α) : get2 (add2 o S) 0 (top S) = some o:=by rw [get2_add]; simp
theorem get2_top {α : Type} (S : List (List α)) : get2 S 0 (top S) = none:=by
 cases S <;> simp [get2,top]
theorem get2_add_old {α : Type} {S : List (List α)} {d i : Nat} {x : α} (o : α) (h : get2 S d i = some x) : get2 (add2 o S) d i = some x:=by
 rw [get2_add]
 split
 ·rename_i he
  rw [he.1,he.2,get2_top] at h; cases h
 ·exact h
theorem get2_set {α : Type} {S : List (List α)} {d i : Nat} {x : α} (o : α) (h : get2 S d i = some x) (d' i' : Nat) : get2 (set2 S d i o) d' i' = if d' = d ∧ i' = i then some o else get2 S d' i':=by
 unfold get2 set2 at *
 obtain ⟨L,hL,hi⟩:=Option.bind_eq_some_iff.1 h
 have hd : d < S.length:=(List.getElem?_eq_some_iff.1 hL).1
 have hil : i < L.length:=(List.getElem?_eq_some_iff.1 hi).1
 have hg : S.getD d [] = L:=by simp [List.getD,hL]
 rw [hg]
 by_cases he : d' = d
 ·subst he
  rw [List.getElem?_set_self hd,Option.bind_some]
  by_cases hi' : i' = i
  ·subst hi'; simp [hil]
  ·rw [List.getElem?_set_ne (by omega),if_neg (by simp [hi']),hL,Option.bind_some]
 ·rw [List.getElem?_set_ne (by omega),if_neg (by simp [he])]
theorem top_map {α β : Type} {S : List (List α)} {T : List (List β)} (h : S.map List.length = T.map List.length) : top S = top T:=by
 cases S <;> cases T <;> simp_all [top]
theorem add_map {α β : Type} {S : List (List α)} {T : List (List β)} (h : S.map List.length = T.map List.length) (o : α) (o' : β) : (add2 o S).map List.length = (add2 o' T).map List.length:=by
 cases S <;> cases T <;> simp_all [add2]
theorem set_map {α : Type} (S : List (List α)) (d i : Nat) (o : α) : (set2 S d i o).map List.length = S.map List.length:=by
 unfold set2
 apply List.ext_getElem?
 intro j
 rw [List.getElem?_map,List.getElem?_map]
 by_cases h : j = d
 ·subst h
  rcases Nat.lt_or_ge j S.length with hj | hj
  ·rw [List.getElem?_set_self hj]; simp [List.getD,List.getElem?_eq_getElem hj]
  ·rw [List.getElem?_eq_none (by simpa using hj),List.getElem?_eq_none (by simpa using hj)]
 ·rw [List.getElem?_set_ne (by omega)]
theorem Fle.drop {φ φ' : Fi2} (h : Fle φ φ') (k : Nat) : Fle (φ.drop k) (φ'.drop k):=fun d i e he=>by
 rw [get2_drop] at he
 obtain ⟨e',h1,h2⟩:=h _ _ _ he
 exact ⟨e',by rw [get2_drop]; exact h1,h2⟩
def Born (clock : Nat) (ents : Array MapEntry) : Prop:=clock = ents.size ∧ ∀ (j : Nat) (en : MapEntry),ents[j]? = some en → en.born = j
theorem Born.modify {c : Nat} {ents : Array MapEntry} (h : Born c ents) (j : Nat) {f : MapEntry → MapEntry} (hf : ∀ e,(f e).born = e.born) : Born c (ents.modify j f):=by
 refine ⟨by rw [Array.size_modify]; exact h.1,fun q en hq=>?_⟩
 rw [Array.getElem?_modify] at hq
 split at hq
 ·obtain ⟨e,he,rfl⟩:=Option.map_eq_some_iff.1 hq
  rw [hf]; exact h.2 q e he
 ·exact h.2 q en hq
theorem Born.push {c : Nat} {ents : Array MapEntry} (h : Born c ents) {e : MapEntry} (he : e.born = c) : Born (c + 1) (ents.push e):=by
 refine ⟨by rw [Array.size_push,h.1],fun q en hq=>?_⟩
 rw [Array.getElem?_push] at hq
 split at hq
 ·rename_i hqe
  cases hq
  rw [he,h.1,hqe]
 ·exact h.2 q en hq
theorem Born.find {c : Nat} {ents : Array MapEntry} (h : Born c ents) {j : Nat} (hj : j < ents.size) : ents.findIdx? (fun e=>(e.born : Int) == (j : Int)) = some j:=by
 rw [Array.findIdx?_eq_some_iff_getElem]
 refine ⟨hj,?_,fun q hq=>?_⟩
 ·rw [h.2 j _ (Array.getElem?_eq_getElem hj)]; simp
 ·rw [h.2 q _ (Array.getElem?_eq_getElem (by omega))]
  simp; omega
def RelO (Pr : Prot) (φ : Fi2) (w : World) : AObj → Ent → Prop
 | .dead,_=>True
 | .raw l ob cs xs,e=>e.tok = false ∧ e.blk = some l ∧ w.heap[l]? = some ob ∧ cs.length = xs.size ∧ (∀ (j : Nat) (c : AV) (x : Value),cs[j]? = some c → xs[j]? = some x → RA Pr (φ.drop 1) c x) ∧ ∀ o,Pr l o = none
 | .cells cs t,e=>e.tok = false ∧ ∃ g xs,e.blk = some g ∧ w.heap[g]? = some (.cells xs t (0,0)) ∧ cs.length = xs.size ∧ (∀ (j : Nat) (c : AV) (x : Value),cs[j]? = some c → xs[j]? = some x → RA Pr φ c x) ∧ ∀ o,Pr g o = none
 | .map es,e=>e.tok = false ∧ ∃ g ents clock,e.blk = some g ∧ w.heap[g]? = some (.map ents clock) ∧ es.length = ents.size ∧ (∀ (j : Nat) (kv : Value × AV) (en : MapEntry),es[j]? = some kv → ents[j]? = some en → en.key = kv.1 ∧ RA Pr φ kv.2 en.val) ∧ (∀ o,Pr g o = none) ∧ Born clock ents
 | .row E k n cs,e=>e.tok = true ∧ e.n = n ∧ e.k = k ∧ 0 < k ∧ cs.length = n * k ∧ ((n = 0 ∧ e.blk = none) ∨ ∃ g xs,e.blk = some g ∧ w.heap[g]? = some (.cells xs E (0,0)) ∧ xs.size = e.cap * k ∧ 0 < n ∧ n ≤ e.cap ∧ e.cap ≤ maxLen ∧ (∀ (j : Nat) (c : AV) (x : Value),cs[j]? = some c → xs[j]? = some x → RA Pr φ c x) ∧ ∀ o,Pr g o = none)
 | .tok E k n,e=>e.tok = true ∧ e.n = n ∧ e.k = k ∧ 0 < k ∧ ((n = 0 ∧ e.blk = none) ∨ ∃ g xs,e.blk = some g ∧ w.heap[g]? = some (.cells xs E (0,0)) ∧ xs.size = e.cap * k ∧ 0 < n ∧ n ≤ e.cap ∧ e.cap ≤ maxLen ∧ ∀ o,n * k ≤ o → Pr g o = none)
theorem RelO.keep {Pr Pr' : Prot} {φ φ' : Fi2} {w w' : World} {o : AObj} {e : Ent} (h : RelO Pr φ w o e) (hP : Pr.le Pr') (hF : Fle φ φ') (hb : ∀ g,e.blk = some g → w'.heap[g]? = w.heap[g]? ∧ ∀ o,Pr g o = none → Pr' g o = none) : RelO Pr' φ' w' o e:=by
 cases o with
 | dead=>trivial
 | raw l ob cs xs =>
  obtain ⟨h0,h1,h2,h3,h4,h5⟩:=h
  exact ⟨h0,h1,(hb l h1).1.trans h2,h3,fun j c x a b=>(h4 j c x a b).mono hP (hF.drop 1),fun o=>(hb l h1).2 o (h5 o)⟩
 | cells cs t =>
  obtain ⟨h0,g,xs,h1,h2,h3,h4,h5⟩:=h
  exact ⟨h0,g,xs,h1,(hb g h1).1.trans h2,h3,fun j c x a b=>(h4 j c x a b).mono hP hF,fun o=>(hb g h1).2 o (h5 o)⟩
 | map es =>
  obtain ⟨h0,g,ents,clock,h1,h2,h3,h4,h5,h6⟩:=h
  exact ⟨h0,g,ents,clock,h1,(hb g h1).1.trans h2,h3,fun j kv en a b=>⟨(h4 j kv en a b).1,(h4 j kv en a b).2.mono hP hF⟩,fun o=>(hb g h1).2 o (h5 o),h6⟩
 | tok E k n =>
  obtain ⟨h0,h1,h2,h3,h4⟩:=h
  refine ⟨h0,h1,h2,h3,h4.imp id ?_⟩
  rintro ⟨g,xs,a,b,c,d,e1,f,i⟩
  exact ⟨g,xs,a,(hb g a).1.trans b,c,d,e1,f,fun o ho=>(hb g a).2 o (i o ho)⟩
 | row E k n cs =>
  obtain ⟨h0,h1,h2,h3,h5,h4⟩:=h
  refine ⟨h0,h1,h2,h3,h5,h4.imp id ?_⟩
  rintro ⟨g,xs,a,b,c,d,e1,f,q,i⟩
  exact ⟨g,xs,a,(hb g a).1.trans b,c,d,e1,f,fun j c x u v=>(q j c x u v).mono hP hF,fun o=>(hb g a).2 o (i o)⟩
def TabsP (Pr : Prot) (φ : Fi2) (w : World) : Prop:=∀ g cs,(g,cs) ∈ tabList → cs ≠ [] ∧ (∀ j x,cs[j]? = some x → Pr g j = some x) ∧ (∃ t fz,w.heap[g]? = some (.cells cs.toArray t fz)) ∧ ∀ d i e,get2 φ d i = some e → e.blk ≠ some g
theorem TabsP.of {Pr Pr' : Prot} {φ φ' : Fi2} {w w' : World} (h : TabsP Pr φ w) (hl : Pr.le Pr') (hb : ∀ g,g < w.heap.size → (∀ d i e,get2 φ d i = some e → e.blk ≠ some g) → w'.heap[g]? = w.heap[g]?) (hf : ∀ d i e g,get2 φ' d i = some e → e.blk = some g → (∃ d0 i0 e0,get2 φ d0 i0 = some e0 ∧ e0.blk = some g) ∨ w.heap.size ≤ g) : TabsP Pr' φ' w':=fun g cs hm=>by
 obtain ⟨h0,h1,⟨t,fz,h2⟩,h3⟩:=h g cs hm
 have hlt : g < w.heap.size:=blk_lt h2
 refine ⟨h0,fun j x hx=>hl _ _ _ (h1 j x hx),⟨t,fz,(hb g hlt h3).trans h2⟩,fun d i e he hg=>?_⟩
 rcases hf d i e g he hg with ⟨d0,i0,e0,k1,k2⟩ | k
 ·exact h3 d0 i0 e0 k1 k2
 ·omega
theorem TabsP.ne {Pr : Prot} {φ : Fi2} {w : World} (h : TabsP Pr φ w) {g0 : Nat} (hp : ∀ o,Pr g0 o = none) : ∀ g cs,(g,cs) ∈ tabList → g ≠ g0:=fun g cs hm hg=>by
 obtain ⟨h0,h1,_⟩:=h g cs hm
 subst hg
 cases cs with
 | nil=>exact h0 rfl
 | cons c cs=>have:=h1 0 c rfl; rw [hp] at this; cases this
structure Rel (Pr : Prot) (φ : Fi2) (S : ASt) (w : World) : Prop where
 obj : ∀ d i o,get2 S d i = some o → ∃ e,get2 φ d i = some e ∧ RelO Pr (φ.drop d) w o e
 dis : ∀ d i e d' i' e' g,get2 φ d i = some e → get2 φ d' i' = some e' → e.blk = some g → e'.blk = some g → d = d' ∧ i = i'
 lt : ∀ d i e g,get2 φ d i = some e → e.blk = some g → g < w.heap.size
 pr : ∀ b o v,Pr b o = some v → w.cell? ⟨b,o,none⟩ = some v
 tb : TabsP Pr φ w
 shape : φ.map List.length = S.map List.length
structure Fr (φ : Fi2) (w w' : World) : Prop where
 os : w'.os = w.os
 tape : w'.tape = w.tape
 output : w'.output = w.output
 size : w.heap.size ≤ w'.heap.size
 block : ∀ g,g < w.heap.size → (∀ d i e,get2 φ d i = some e → e.blk ≠ some g) → w'.heap[g]? = w.heap[g]?
structure Stp (Pr : Prot) (φ : Fi2) (w : World) (Pr' : Prot) (φ' : Fi2) (w' : World) : Prop where
 pl : Pr.le Pr'
 fl : Fle φ φ'
 fresh : ∀ d i e g,get2 φ' d i = some e → e.blk = some g → (∃ d0 i0 e0,get2 φ d0 i0 = some e0 ∧ e0.blk = some g) ∨ w.heap.size ≤ g
 fr : Fr φ w w'
 len : φ'.length = φ.length
 pn : ∀ g o,Pr g o = none → Pr' g o ≠ none → (∃ d i e,get2 φ d i = some e ∧ e.blk = some g) ∨ w.heap.size ≤ g
theorem Stp.refl (Pr : Prot) (φ : Fi2) (w : World) : Stp Pr φ w Pr φ w:=⟨(Prot.le_refl Pr),Fle.refl φ,fun d i e g h k=>.inl ⟨d,i,e,h,k⟩,⟨rfl,rfl,rfl,Nat.le_refl _,fun _ _ _=>rfl⟩,rfl,fun g o h k=>absurd h k⟩
theorem Stp.trans {Pr0 Pr1 Pr2 : Prot} {φ0 φ1 φ2 : Fi2} {w0 w1 w2 : World} (h : Stp Pr0 φ0 w0 Pr1 φ1 w1) (k : Stp Pr1 φ1 w1 Pr2 φ2 w2) : Stp Pr0 φ0 w0 Pr2 φ2 w2:=by
 refine ⟨Prot.le_trans h.pl k.pl,h.fl.trans k.fl,fun d i e g he hg=>?_,⟨k.fr.os.trans h.fr.os,k.fr.tape.trans h.fr.tape,k.fr.output.trans h.fr.output,Nat.le_trans h.fr.size k.fr.size,fun g hg hn=>?_⟩,k.len.trans h.len,fun g o h0 h2=>?_⟩
 ·rcases k.fresh d i e g he hg with ⟨d0,i0,e0,h0,h1⟩ | h1
  ·exact h.fresh d0 i0 e0 g h0 h1
  ·exact .inr (Nat.le_trans h.fr.size h1)
 ·rw [k.fr.block g (Nat.lt_of_lt_of_le hg h.fr.size) (fun d i e he hb=>?_)]
  ·exact h.fr.block g hg hn
  ·rcases h.fresh d i e g he hb with ⟨d0,i0,e0,h0,h1⟩ | h1
   ·exact hn d0 i0 e0 h0 h1
   ·omega
 ·cases h1 : Pr1 g o with
  | none =>
   rcases k.pn g o h1 h2 with ⟨d,i,e,he,hb⟩ | h3
   ·exact h.fresh d i e g he hb
   ·exact .inr (Nat.le_trans h.fr.size h3)
  | some v=>exact h.pn g o h0 (by rw [h1]; simp)
theorem ent_le_add (φ : Fi2) (e : Ent) : Fle φ (add2 e φ):=fun d i x h=>⟨x,get2_add_old e h,x.le_refl⟩
theorem add_len (φ : Fi2) (e : Ent) (h : φ ≠ []) : (add2 e φ).length = φ.length:=by
 cases φ with
 | nil=>exact absurd rfl h
 | cons L R=>simp [add2]
theorem pr_lt {Pr : Prot} {φ : Fi2} {S : ASt} {w : World} (h : Rel Pr φ S w) {b o : Nat} {v : Value} (hv : Pr b o = some v) : b < w.heap.size:=lt_of_cell (h.pr b o v hv)
theorem rel_alloc {Pr : Prot} {φ : Fi2} {S : ASt} {w : World} (h : Rel Pr φ S w) (hne : φ ≠ []) (cs : List AV) (xs : Array Value) (t : TypeId) (hl : cs.length = xs.size) (hc : ∀ (j : Nat) (c : AV) (x : Value),cs[j]? = some c → xs[j]? = some x → RA Pr φ c x) :
  ∃ φ',Stp Pr φ w Pr φ' (w.alloc (.cells xs t (0,0))) ∧ Rel Pr φ' (add2 (.cells cs t) S) (w.alloc (.cells xs t (0,0))) ∧ RA Pr φ' (.ptr 0 (top S) 0) (.pointer (some ⟨w.heap.size,0,none⟩)):=by
 have ht : top φ = top S:=top_map h.shape
 have hnew : get2 (add2 ⟨false,some w.heap.size,0,0,0⟩ φ) 0 (top S) = some ⟨false,some w.heap.size,0,0,0⟩:=by rw [← ht]; exact get2_add_new _ _
 have hge : ∀ o,Pr w.heap.size o = none:=fun o=>by
  cases hv : Pr w.heap.size o with
  | none=>rfl
  | some v=>exact absurd (pr_lt h hv) (Nat.lt_irrefl _)
 have hcell : ∀ b o v,w.cell? ⟨b,o,none⟩ = some v → (w.alloc (.cells xs t (0,0))).cell? ⟨b,o,none⟩ = some v:=fun b o v hv=>by
  rw [World.cell?_alloc_lt _ _ _ (lt_of_cell hv)]; exact hv
 refine ⟨add2 ⟨false,some w.heap.size,0,0,0⟩ φ,⟨(Prot.le_refl Pr),ent_le_add _ _,fun d i e g he hg=>?_,⟨rfl,rfl,rfl,by simp,fun g hg _=>Below.heap_alloc _ _ _ hg⟩,add_len _ _ hne,fun g o h k=>absurd h k⟩,⟨fun d i o ho=>?_,fun d i e d' i' e' g h1 h2 h3 h4=>?_,fun d i e g h1 h2=>?_,fun b o v hv=>hcell b o v (h.pr b o v hv),h.tb.of (Prot.le_refl _) (fun g hg _=>Below.heap_alloc _ _ _ hg) (fun d i e g he hg=>by
  rw [get2_add] at he
  split at he
  ·cases he; cases hg; exact .inr (Nat.le_refl _)
  ·exact .inl ⟨d,i,e,he,hg⟩),add_map h.shape _ _⟩,.ptr hnew rfl rfl⟩
 ·rw [get2_add] at he
  split at he
  ·cases he; cases hg; exact .inr (Nat.le_refl _)
  ·exact .inl ⟨d,i,e,he,hg⟩
 ·rw [get2_add] at ho
  split at ho
  ·rename_i hd
   obtain ⟨rfl,rfl⟩:=hd
   cases ho
   refine ⟨_,hnew,rfl,w.heap.size,xs,rfl,blk_new _ _,hl,fun j c x a b=>(hc j c x a b).mono (Prot.le_refl Pr) (ent_le_add _ _),hge⟩
  ·obtain ⟨e,he,hr⟩:=h.obj d i o ho
   refine ⟨e,get2_add_old _ he,hr.keep (Prot.le_refl Pr) ((ent_le_add _ _).drop d) fun g hg=>⟨Below.heap_alloc _ _ _ (h.lt d i e g he hg),fun _ h=>h⟩⟩
 ·rw [get2_add] at h1 h2
  split at h1
  ·rename_i hd
   cases h1; cases h3
   split at h2
   ·rename_i hd'
    exact ⟨hd.1.trans hd'.1.symm,hd.2.trans hd'.2.symm⟩
   ·exact absurd (h.lt _ _ _ _ h2 h4) (Nat.lt_irrefl _)
  ·split at h2
   ·cases h2; cases h4
    exact absurd (h.lt _ _ _ _ h1 h3) (Nat.lt_irrefl _)
   ·exact h.dis d i e d' i' e' g h1 h2 h3 h4
 ·rw [get2_add] at h1
  split at h1
  ·cases h1; cases h2; simp
  ·have:=h.lt d i e g h1 h2; simp; omega
theorem rel_row {Pr : Prot} {φ : Fi2} {S : ASt} {w : World} (h : Rel Pr φ S w) (rows : List (List PV)) (k : Nat) (xs : Array Value) (t : TypeId) (hk : ∀ (r : Nat) (row : List PV),rows[r]? = some row → row.length = k) (hm : rows.length ≤ maxLen)
  (hc : ∀ (r : Nat) (row : List PV) (j : Nat) (p : PV),rows[r]? = some row → row[j]? = some p → ∃ x,xs[r * k + j]? = some x ∧ RP Pr p x) :
  ∃ Pr',Stp Pr φ w Pr' φ (w.alloc (.cells xs t (0,0))) ∧ Rel Pr' φ S (w.alloc (.cells xs t (0,0))) ∧ RP Pr' (.sl k rows) (.slice (some ⟨w.heap.size,0,none⟩) rows.length rows.length) ∧ ∀ o,Pr' w.heap.size o = xs[o]?:=by
 have hle : Pr.le (fun b o=>if b = w.heap.size then xs[o]? else Pr b o):=fun b o v hv=>by
  have:=pr_lt h hv
  show (if b = w.heap.size then xs[o]? else Pr b o) = some v
  rw [if_neg (by omega)]; exact hv
 refine ⟨fun b o=>if b = w.heap.size then xs[o]? else Pr b o,⟨hle,Fle.refl _,fun d i e g he hg=>.inl ⟨d,i,e,he,hg⟩,⟨rfl,rfl,rfl,by simp,fun g hg _=>Below.heap_alloc _ _ _ hg⟩,rfl,fun g o h k=>by
  have k' : (if g = w.heap.size then xs[o]? else Pr g o) ≠ none:=k
  split at k'
  ·rename_i hg; exact .inr (by omega)
  ·exact absurd h k'⟩,⟨fun d i o ho=>?_,h.dis,fun d i e g h1 h2=>?_,fun b o v hv=>?_,h.tb.of hle (fun g hg _=>Below.heap_alloc _ _ _ hg) (fun d i e g he hg=>.inl ⟨d,i,e,he,hg⟩),h.shape⟩,?_,fun o=>by simp⟩
 ·obtain ⟨e,he,hr⟩:=h.obj d i o ho
  refine ⟨e,he,hr.keep hle (Fle.refl _) fun g hg=>⟨Below.heap_alloc _ _ _ (h.lt d i e g he hg),fun o hn=>?_⟩⟩
  have:=h.lt d i e g he hg
  rw [if_neg (by omega)]; exact hn
 ·have:=h.lt d i e g h1 h2; simp; omega
 ·split at hv
  ·rename_i hb
   subst hb
   rw [cell_blk (blk_new _ _)]; exact hv
  ·have:=h.pr b o v hv
   rw [World.cell?_alloc_lt _ _ _ (lt_of_cell this)]; exact this
 ·have hch : ∀ (r : Nat) (row : List PV) (j : Nat) (p : PV),rows[r]? = some row → row[j]? = some p → xs[r * k + j]? = some (xs.getD (r * k + j) undef) ∧ RP Pr p (xs.getD (r * k + j) undef):=fun r row j p a b=>by
   obtain ⟨x,h1,h2⟩:=hc r row j p a b
   simp [h1,h2]
  refine .sl (fun r j=>xs.getD (r * k + j) undef) (Nat.le_refl _) hm hk (fun r row j p a b=>?_) (fun r row j p a b=>(hch r row j p a b).2.mono hle)
  simp only [if_true,Nat.zero_add]
  exact (hch r row j p a b).1
theorem rel_store {Pr : Prot} {φ : Fi2} {S : ASt} {w : World} (h : Rel Pr φ S w) {d i o g : Nat} {e : Ent} {cs : List AV} {t : TypeId} {c : AV} {x : Value} (ho : get2 S d i = some (.cells cs t)) (he : get2 φ d i = some e) (hg : e.blk = some g) (hc : RA Pr (φ.drop d) c x) :
  Stp Pr φ w Pr φ (w.setCell ⟨g,o,none⟩ x) ∧ Rel Pr φ (set2 S d i (.cells (cs.set o c) t)) (w.setCell ⟨g,o,none⟩ x):=by
 obtain ⟨e',he',hr⟩:=h.obj d i _ ho
 rw [he] at he'; cases he'
 obtain ⟨htok,g',xs,hg',hblk,hlen,hcs,hun⟩:=hr
 rw [hg] at hg'; cases hg'
 have hfar : ∀ g',g' ≠ g → (w.setCell ⟨g,o,none⟩ x).heap[g']? = w.heap[g']?:=fun g' hne=>Below.heap_setCell _ _ _ _ hne
 refine ⟨⟨(Prot.le_refl Pr),Fle.refl _,fun d i e g he hg=>.inl ⟨d,i,e,he,hg⟩,⟨rfl,rfl,rfl,by simp [World.setCell],fun g' _ hn=>hfar g' fun h=>hn d i e he (by rw [h]; exact hg)⟩,rfl,fun g o h k=>absurd h k⟩,⟨fun d' i' o' ho'=>?_,h.dis,fun d' i' e' g' h1 h2=>?_,fun b o' v hv=>?_,h.tb.of (Prot.le_refl _) (fun g' _ hn=>hfar g' fun h=>hn d i e he (by rw [h]; exact hg)) (fun d i e g he hg=>.inl ⟨d,i,e,he,hg⟩),by rw [set_map]; exact h.shape⟩⟩
 ·rw [get2_set _ ho] at ho'
  split at ho'
  ·rename_i hd
   obtain ⟨rfl,rfl⟩:=hd
   cases ho'
   refine ⟨e,he,htok,g,xs.setIfInBounds o x,hg,blk_set hblk o x,by simpa using hlen,fun j c' x' a b=>?_,hun⟩
   by_cases hj : j = o
   ·subst hj
    rcases Nat.lt_or_ge j cs.length with hlt | hge
    ·rw [List.getElem?_set_self hlt] at a
     rw [Array.getElem?_setIfInBounds_self_of_lt (by omega)] at b
     cases a; cases b; exact hc
    ·rw [List.getElem?_eq_none (by simpa using hge)] at a; cases a
   ·rw [List.getElem?_set_ne (by omega)] at a
    rw [Array.getElem?_setIfInBounds_ne (by omega)] at b
    exact hcs j c' x' a b
  ·rename_i hd
   obtain ⟨e',he',hr'⟩:=h.obj d' i' o' ho'
   refine ⟨e',he',hr'.keep (Prot.le_refl Pr) (Fle.refl _) fun g' hg'=>⟨hfar g' fun hgg=>hd ?_,fun _ h=>h⟩⟩
   subst hgg
   exact h.dis _ _ _ _ _ _ _ he' he hg' hg
 ·have:=h.lt d' i' e' g' h1 h2; simpa [World.setCell] using this
 ·have hne : b ≠ g:=fun hb=>by subst hb; rw [hun o'] at hv; cases hv
  rw [World.cell?_of_block (a:=⟨b,o',none⟩) (hfar b hne)]
  exact h.pr b o' v hv
theorem rel_storeR {Pr : Prot} {φ : Fi2} {S : ASt} {w : World} (h : Rel Pr φ S w) {d i o g k n : Nat} {e : Ent} {cs : List AV} {E : TypeId} {c : AV} {x : Value} (ho : get2 S d i = some (.row E k n cs)) (he : get2 φ d i = some e) (hg : e.blk = some g) (hlt : o < cs.length) (hc : RA Pr (φ.drop d) c x) :
  Stp Pr φ w Pr φ (w.setCell ⟨g,o,none⟩ x) ∧ Rel Pr φ (set2 S d i (.row E k n (cs.set o c))) (w.setCell ⟨g,o,none⟩ x):=by
 obtain ⟨e',he',hr⟩:=h.obj d i _ ho
 rw [he] at he'; cases he'
 obtain ⟨htok,hn,hk,hk0,hlen,hrest⟩:=hr
 obtain ⟨_,hnb⟩ | ⟨g',xs,hg',hblk,hsz,hn0,hnc,hcm,hcs,hun⟩:=hrest
 ·rw [hg] at hnb; cases hnb
 rw [hg] at hg'; cases hg'
 have hfar : ∀ g',g' ≠ g → (w.setCell ⟨g,o,none⟩ x).heap[g']? = w.heap[g']?:=fun g' hne=>Below.heap_setCell _ _ _ _ hne
 refine ⟨⟨(Prot.le_refl Pr),Fle.refl _,fun d i e g he hg=>.inl ⟨d,i,e,he,hg⟩,⟨rfl,rfl,rfl,by simp [World.setCell],fun g' _ hn=>hfar g' fun h=>hn d i e he (by rw [h]; exact hg)⟩,rfl,fun g o h k=>absurd h k⟩,⟨fun d' i' o' ho'=>?_,h.dis,fun d' i' e' g' h1 h2=>?_,fun b o' v hv=>?_,h.tb.of (Prot.le_refl _) (fun g' _ hn=>hfar g' fun h=>hn d i e he (by rw [h]; exact hg)) (fun d i e g he hg=>.inl ⟨d,i,e,he,hg⟩),by rw [set_map]; exact h.shape⟩⟩
 ·rw [get2_set _ ho] at ho'
  split at ho'
  ·rename_i hd
   obtain ⟨rfl,rfl⟩:=hd
   cases ho'
   refine ⟨e,he,htok,hn,hk,hk0,by simpa using hlen,.inr ⟨g,xs.setIfInBounds o x,hg,blk_set hblk o x,by simpa using hsz,hn0,hnc,hcm,fun j c' x' a b=>?_,hun⟩⟩
   by_cases hj : j = o
   ·subst hj
    rw [List.getElem?_set_self hlt] at a
    cases a
    rw [Array.getElem?_setIfInBounds] at b
    split at b
    ·split at b
     ·cases b; exact hc
     ·cases b
    ·rename_i hne; exact absurd rfl hne
   ·rw [List.getElem?_set_ne (by omega)] at a
    rw [Array.getElem?_setIfInBounds_ne (by omega)] at b
    exact hcs j c' x' a b
  ·rename_i hd
   obtain ⟨e',he',hr'⟩:=h.obj d' i' o' ho'
   refine ⟨e',he',hr'.keep (Prot.le_refl Pr) (Fle.refl _) fun g' hg'=>⟨hfar g' fun hgg=>hd ?_,fun _ h=>h⟩⟩
   subst hgg
   exact h.dis _ _ _ _ _ _ _ he' he hg' hg
 ·have:=h.lt d' i' e' g' h1 h2; simpa [World.setCell] using this
 ·have hne : b ≠ g:=fun hb=>by subst hb; rw [hun o'] at hv; cases hv
  rw [World.cell?_of_block (a:=⟨b,o',none⟩) (hfar b hne)]
  exact h.pr b o' v hv
theorem rel_newE {Pr : Prot} {φ : Fi2} {S : ASt} {w : World} (h : Rel Pr φ S w) (hne : φ ≠ []) (ob : Obj) (ao : AObj) (e0 : Ent) (he0 : e0.blk = some w.heap.size) (hob : ∀ φ' w',Fle φ φ' → w'.heap[w.heap.size]? = some ob → (∀ o,Pr w.heap.size o = none) → RelO Pr φ' w' ao e0) :
  ∃ φ',Stp Pr φ w Pr φ' (w.alloc ob) ∧ Rel Pr φ' (add2 ao S) (w.alloc ob) ∧ get2 φ' 0 (top S) = some e0:=by
 have ht : top φ = top S:=top_map h.shape
 have hnew : get2 (add2 e0 φ) 0 (top S) = some e0:=by rw [← ht]; exact get2_add_new _ _
 have hge : ∀ o,Pr w.heap.size o = none:=fun o=>by
  cases hv : Pr w.heap.size o with
  | none=>rfl
  | some v=>exact absurd (pr_lt h hv) (Nat.lt_irrefl _)
 have hcell : ∀ b o v,w.cell? ⟨b,o,none⟩ = some v → (w.alloc ob).cell? ⟨b,o,none⟩ = some v:=fun b o v hv=>by
  rw [World.cell?_alloc_lt _ _ _ (lt_of_cell hv)]; exact hv
 have hfr : ∀ d i e g,get2 (add2 e0 φ) d i = some e → e.blk = some g → (∃ d0 i0 e1,get2 φ d0 i0 = some e1 ∧ e1.blk = some g) ∨ w.heap.size ≤ g:=fun d i e g he hg=>by
  rw [get2_add] at he
  split at he
  ·cases he; rw [he0] at hg; cases hg; exact .inr (Nat.le_refl _)
  ·exact .inl ⟨d,i,e,he,hg⟩
 refine ⟨add2 e0 φ,⟨(Prot.le_refl Pr),ent_le_add _ _,hfr,⟨rfl,rfl,rfl,by simp,fun g hg _=>Below.heap_alloc _ _ _ hg⟩,add_len _ _ hne,fun g o h k=>absurd h k⟩,⟨fun d i o ho=>?_,fun d i e d' i' e' g h1 h2 h3 h4=>?_,fun d i e g h1 h2=>?_,fun b o v hv=>hcell b o v (h.pr b o v hv),h.tb.of (Prot.le_refl _) (fun g hg _=>Below.heap_alloc _ _ _ hg) hfr,add_map h.shape _ _⟩,hnew⟩
 ·rw [get2_add] at ho
  split at ho
  ·rename_i hd
   obtain ⟨rfl,rfl⟩:=hd
   cases ho
   exact ⟨_,hnew,hob _ _ (ent_le_add _ _) (blk_new _ _) hge⟩
  ·obtain ⟨e,he,hr⟩:=h.obj d i o ho
   refine ⟨e,get2_add_old _ he,hr.keep (Prot.le_refl Pr) ((ent_le_add _ _).drop d) fun g hg=>⟨Below.heap_alloc _ _ _ (h.lt d i e g he hg),fun _ h=>h⟩⟩
 ·rw [get2_add] at h1 h2
  split at h1
  ·rename_i hd
   cases h1
   rw [he0] at h3; cases h3
   split at h2
   ·rename_i hd'
    exact ⟨hd.1.trans hd'.1.symm,hd.2.trans hd'.2.symm⟩
   ·exact absurd (h.lt _ _ _ _ h2 h4) (Nat.lt_irrefl _)
  ·split at h2
   ·cases h2
    rw [he0] at h4; cases h4
    exact absurd (h.lt _ _ _ _ h1 h3) (Nat.lt_irrefl _)
   ·exact h.dis d i e d' i' e' g h1 h2 h3 h4
 ·rw [get2_add] at h1
  split at h1
  ·cases h1
   rw [he0] at h2; cases h2; simp
  ·have:=h.lt d i e g h1 h2; simp; omega
theorem rel_newO {Pr : Prot} {φ : Fi2} {S : ASt} {w : World} (h : Rel Pr φ S w) (hne : φ ≠ []) (ob : Obj) (ao : AObj) (hob : ∀ φ' w',w'.heap[w.heap.size]? = some ob → (∀ o,Pr w.heap.size o = none) → RelO Pr φ' w' ao ⟨false,some w.heap.size,0,0,0⟩) :
  ∃ φ',Stp Pr φ w Pr φ' (w.alloc ob) ∧ Rel Pr φ' (add2 ao S) (w.alloc ob) ∧ get2 φ' 0 (top S) = some ⟨false,some w.heap.size,0,0,0⟩:=by
 have ht : top φ = top S:=top_map h.shape
 have hnew : get2 (add2 ⟨false,some w.heap.size,0,0,0⟩ φ) 0 (top S) = some ⟨false,some w.heap.size,0,0,0⟩:=by rw [← ht]; exact get2_add_new _ _
 have hge : ∀ o,Pr w.heap.size o = none:=fun o=>by
  cases hv : Pr w.heap.size o with
  | none=>rfl
  | some v=>exact absurd (pr_lt h hv) (Nat.lt_irrefl _)
 have hcell : ∀ b o v,w.cell? ⟨b,o,none⟩ = some v → (w.alloc ob).cell? ⟨b,o,none⟩ = some v:=fun b o v hv=>by
  rw [World.cell?_alloc_lt _ _ _ (lt_of_cell hv)]; exact hv
 refine ⟨add2 ⟨false,some w.heap.size,0,0,0⟩ φ,⟨(Prot.le_refl Pr),ent_le_add _ _,fun d i e g he hg=>?_,⟨rfl,rfl,rfl,by simp,fun g hg _=>Below.heap_alloc _ _ _ hg⟩,add_len _ _ hne,fun g o h k=>absurd h k⟩,⟨fun d i o ho=>?_,fun d i e d' i' e' g h1 h2 h3 h4=>?_,fun d i e g h1 h2=>?_,fun b o v hv=>hcell b o v (h.pr b o v hv),h.tb.of (Prot.le_refl _) (fun g hg _=>Below.heap_alloc _ _ _ hg) (fun d i e g he hg=>by
  rw [get2_add] at he
  split at he
  ·cases he; cases hg; exact .inr (Nat.le_refl _)
  ·exact .inl ⟨d,i,e,he,hg⟩),add_map h.shape _ _⟩,hnew⟩
 ·rw [get2_add] at he
  split at he
  ·cases he; cases hg; exact .inr (Nat.le_refl _)
  ·exact .inl ⟨d,i,e,he,hg⟩
 ·rw [get2_add] at ho
  split at ho
  ·rename_i hd
   obtain ⟨rfl,rfl⟩:=hd
   cases ho
   exact ⟨_,hnew,hob _ _ (blk_new _ _) hge⟩
  ·obtain ⟨e,he,hr⟩:=h.obj d i o ho
   refine ⟨e,get2_add_old _ he,hr.keep (Prot.le_refl Pr) ((ent_le_add _ _).drop d) fun g hg=>⟨Below.heap_alloc _ _ _ (h.lt d i e g he hg),fun _ h=>h⟩⟩
 ·rw [get2_add] at h1 h2
  split at h1
  ·rename_i hd
   cases h1; cases h3
   split at h2
   ·rename_i hd'
    exact ⟨hd.1.trans hd'.1.symm,hd.2.trans hd'.2.symm⟩
   ·exact absurd (h.lt _ _ _ _ h2 h4) (Nat.lt_irrefl _)
  ·split at h2
   ·cases h2; cases h4
    exact absurd (h.lt _ _ _ _ h1 h3) (Nat.lt_irrefl _)
   ·exact h.dis d i e d' i' e' g h1 h2 h3 h4
 ·rw [get2_add] at h1
  split at h1
  ·cases h1; cases h2; simp
  ·have:=h.lt d i e g h1 h2; simp; omega
theorem rel_setO {Pr : Prot} {φ : Fi2} {S : ASt} {w : World} (h : Rel Pr φ S w) {d i g : Nat} {e : Ent} {ao0 ao : AObj} (ho : get2 S d i = some ao0) (he : get2 φ d i = some e) (hg : e.blk = some g) (hun : ∀ o,Pr g o = none) (ob : Obj)
  (hob : RelO Pr (φ.drop d) { w with heap:=w.heap.setIfInBounds g ob } ao e) :
  Stp Pr φ w Pr φ { w with heap:=w.heap.setIfInBounds g ob } ∧ Rel Pr φ (set2 S d i ao) { w with heap:=w.heap.setIfInBounds g ob }:=by
 have hfar : ∀ g',g' ≠ g → ({ w with heap:=w.heap.setIfInBounds g ob } : World).heap[g']? = w.heap[g']?:=fun g' hne=>Array.getElem?_setIfInBounds_ne (Ne.symm hne)
 refine ⟨⟨(Prot.le_refl Pr),Fle.refl _,fun d i e g he hg=>.inl ⟨d,i,e,he,hg⟩,⟨rfl,rfl,rfl,by simp,fun g' _ hn=>hfar g' fun h=>hn d i e he (by rw [h]; exact hg)⟩,rfl,fun g o h k=>absurd h k⟩,⟨fun d' i' o' ho'=>?_,h.dis,fun d' i' e' g' h1 h2=>?_,fun b o' v hv=>?_,h.tb.of (Prot.le_refl _) (fun g' _ hn=>hfar g' fun h=>hn d i e he (by rw [h]; exact hg)) (fun d i e g he hg=>.inl ⟨d,i,e,he,hg⟩),by rw [set_map]; exact h.shape⟩⟩
 ·rw [get2_set _ ho] at ho'
  split at ho'
  ·rename_i hd
   obtain ⟨rfl,rfl⟩:=hd
   cases ho'
   exact ⟨e,he,hob⟩
  ·rename_i hd
   obtain ⟨e',he',hr'⟩:=h.obj d' i' o' ho'
   refine ⟨e',he',hr'.keep (Prot.le_refl Pr) (Fle.refl _) fun g' hg'=>⟨hfar g' fun hgg=>hd ?_,fun _ h=>h⟩⟩
   subst hgg
   exact h.dis _ _ _ _ _ _ _ he' he hg' hg
 ·have:=h.lt d' i' e' g' h1 h2; simpa using this
 ·have hne : b ≠ g:=fun hb=>by subst hb; rw [hun o'] at hv; cases hv
  rw [World.cell?_of_block (a:=⟨b,o',none⟩) (hfar b hne)]
  exact h.pr b o' v hv
theorem rel_drew {Pr : Prot} {φ : Fi2} {S : ASt} {w : World} (h : Rel Pr φ S w) (n : Nat) : Stp Pr φ w Pr φ { w with drawn:=n } ∧ Rel Pr φ S { w with drawn:=n } :=
 ⟨⟨(Prot.le_refl Pr),Fle.refl _,fun d i e g he hg=>.inl ⟨d,i,e,he,hg⟩,⟨rfl,rfl,rfl,Nat.le_refl _,fun _ _ _=>rfl⟩,rfl,fun g o h k=>absurd h k⟩,⟨fun d i o ho=>by
  obtain ⟨e,he,hr⟩:=h.obj d i o ho
  exact ⟨e,he,hr.keep (Prot.le_refl Pr) (Fle.refl _) fun g hg=>⟨rfl,fun _ h=>h⟩⟩,h.dis,h.lt,h.pr,h.tb,h.shape⟩⟩
end Go.Proofs.YtfiohepfohhibaaDoor
namespace Go.Proofs.YtfiohepfohhibaaDoor
open Go.RowKit
def RowsAt (Pr : Prot) (k : Nat) (rows : List (List PV)) (xs : List Value) : Prop :=
 ∀ (r : Nat) (row : List PV) (j : Nat) (p : PV),rows[r]? = some row → row[j]? = some p → ∃ x,xs[r * k + j]? = some x ∧ RP Pr p x
def Wide (k : Nat) (rows : List (List PV)) : Prop:=∀ (r : Nat) (row : List PV),rows[r]? = some row → row.length = k
theorem RowsAt.mono {Pr Pr' : Prot} (h : Pr.le Pr') {k : Nat} {rows : List (List PV)} {xs : List Value} (hr : RowsAt Pr k rows xs) : RowsAt Pr' k rows xs:=fun r row j p a b=>by
 obtain ⟨x,h1,h2⟩:=hr r row j p a b
 exact ⟨x,h1,h2.mono h⟩
theorem RowsAt.append {Pr : Prot} {k : Nat} {rows rows2 : List (List PV)} {xs news : List Value} (hl : xs.length = rows.length * k) (hw : Wide k rows) (h : RowsAt Pr k rows xs) (h2 : RowsAt Pr k rows2 news) (hw2 : Wide k rows2) : RowsAt Pr k (rows ++ rows2) (xs ++ news):=fun r row j p a b=>by
 have hj : j < row.length:=(List.getElem?_eq_some_iff.1 b).1
 rcases Nat.lt_or_ge r rows.length with hr | hr
 ·rw [List.getElem?_append_left hr] at a
  obtain ⟨x,h3,h4⟩:=h r row j p a b
  have : r * k + j < rows.length * k:=by
   have h5:=hw r row a
   have : (r + 1) * k ≤ rows.length * k:=Nat.mul_le_mul_right _ (by omega)
   rw [Nat.add_mul] at this
   omega
  exact ⟨x,by rw [List.getElem?_append_left (by omega)]; exact h3,h4⟩
 ·rw [List.getElem?_append_right hr] at a
  obtain ⟨x,h3,h4⟩:=h2 (r - rows.length) row j p a b
  have e : r * k + j = rows.length * k + ((r - rows.length) * k + j):=by
   rw [← Nat.add_assoc,← Nat.add_mul]; congr 2; omega
  exact ⟨x,by rw [List.getElem?_append_right (by omega),hl,e,Nat.add_sub_cancel_left]; exact h3,h4⟩
theorem Wide.append {k : Nat} {a b : List (List PV)} (ha : Wide k a) (hb : Wide k b) : Wide k (a ++ b):=fun r row h=>by
 rcases Nat.lt_or_ge r a.length with hr | hr
 ·rw [List.getElem?_append_left hr] at h; exact ha r row h
 ·rw [List.getElem?_append_right hr] at h; exact hb _ row h
theorem range_get {n j : Nat} (f : Nat → Value) (h : j < n) : ((List.range n).map f)[j]? = some (f j):=by simp [List.getElem?_range h]
theorem RP.cells {Pr : Prot} {rows : List (List PV)} {x : Value} {k : Nat} (hk : 0 < k) (h : RP Pr (.sl k rows) x) (hne : 0 < rows.length) :
  ∃ b off cap news,x = .slice (some ⟨b,off,none⟩) rows.length cap ∧ Wide k rows ∧ news.length = rows.length * k ∧ (∀ (j : Nat) (u : Value),news[j]? = some u → Pr b (off + j) = some u ∧ u.oneCell' = true) ∧ RowsAt Pr k rows news:=by
 cases h with
 | slemp=>simp at hne
 | @sl _ b off cap _ vs h1 h2 h3 h4 h5 =>
  have hw : Wide k rows:=h3
  refine ⟨b,off,cap,(List.range (rows.length * k)).map fun q=>vs (q / k) (q % k),rfl,hw,by simp,fun j u hu=>?_,fun r row j p a b=>?_⟩
  ·have hj : j < rows.length * k:=by simpa using (List.getElem?_eq_some_iff.1 hu).1
   rw [range_get _ hj] at hu
   cases hu
   have hr : j / k < rows.length:=Nat.div_lt_of_lt_mul (by rw [Nat.mul_comm]; exact hj)
   have ha : rows[j / k]? = some rows[j / k]:=List.getElem?_eq_getElem hr
   have hlen:=hw _ _ ha
   have hm : j % k < (rows[j / k]).length:=by rw [hlen]; exact Nat.mod_lt _ hk
   have hb : (rows[j / k])[j % k]? = some (rows[j / k])[j % k]:=List.getElem?_eq_getElem hm
   have e : off + j / k * k + j % k = off + j:=by rw [Nat.add_assoc,Nat.div_add_mod']
   exact ⟨by rw [← e]; exact h4 _ _ _ _ ha hb,(h5 _ _ _ _ ha hb).one⟩
  ·have hr : r < rows.length:=(List.getElem?_eq_some_iff.1 a).1
   have hj : j < k:=by rw [← hw _ _ a]; exact (List.getElem?_eq_some_iff.1 b).1
   have hlt : r * k + j < rows.length * k:=by
    have : (r + 1) * k ≤ rows.length * k:=Nat.mul_le_mul_right _ (by omega)
    rw [Nat.add_mul] at this
    omega
   refine ⟨vs r j,?_,h5 _ _ _ _ a b⟩
   rw [range_get _ hlt]
   have e1 : (r * k + j) / k = r:=by rw [Nat.add_comm,Nat.add_mul_div_right _ _ hk,Nat.div_eq_of_lt hj,Nat.zero_add]
   have e2 : (r * k + j) % k = j:=by rw [Nat.add_comm,Nat.add_mul_mod_self_right,Nat.mod_eq_of_lt hj]
   rw [e1,e2]
theorem append_moves {P : Program} (w : World) (t ty E : TypeId) (inf : TypeInfo) (z : Value) (k : Nat) (ht : P.underlying t = some (.slice E)) (hi : P.info? E = some inf) (hz : inf.zero = some z) (hs : inf.size = k) (hzs : z.cells.size = k) (hk : 0 < k)
  (v : Value) (n : Nat) (xs : List Value) (hown : w.ownsRow 0 E k v n xs) (ad : Addr) (m c : Nat) (news : List Value) (hl : news.length = m * k) (hnews : ∀ j u,news[j]? = some u → w.cell? (ad.add j) = some u) (h1 : ∀ u ∈ news,u.oneCell' = true)
  (hm : 0 < m) (h63 : n + m ≤ maxLen) (hbytes : (n + m) * inf.bytes ≤ 140737488355328) :
  ∃ g cap w',(Builtin.append_ #[t,t] ty #[v,.slice (some ad) m c]).run P w = .ok (.slice (some ⟨g,0,none⟩) (n + m) cap) w' ∧ w'.ownsRow 0 E k (.slice (some ⟨g,0,none⟩) (n + m) cap) (n + m) (xs ++ news) ∧ g < w'.heap.size ∧
   ((v.ownBlock = some g ∧ w.grownBy w' (some g)) ∨ (g = w.heap.size ∧ w.grownBy w' none)):=by
 subst hs
 have hlen : (xs ++ news).length = (n + m) * inf.size:=by rw [List.length_append,hown.1,hl,Nat.add_mul]
 have h63' : n + m ≤ 9223372036854775807:=h63
 have grown : ∀ old : Nat,(w.drew.alloc (.cells (xs.toArray ++ news.toArray ++ Builtin.zeroCells z.cells (grownCap w (n + m) old E - (n + m))) E)).ownsRow 0 E inf.size (.slice (some ⟨w.heap.size,0,none⟩) (n + m) (grownCap w (n + m) old E)) (n + m) (xs ++ news):=fun old=>by
  have hge:=grownCap_ge w (n + m) old E
  refine ⟨hlen,.inr ⟨w.heap.size,_,_,rfl,Nat.zero_le _,blk_new w.drew _,hge,grownCap_le_maxLen w (n + m) old E h63,?_,?_⟩⟩
  ·simp only [Array.size_append,List.size_toArray,size_zeroCells,hzs,hown.1,hl,← Nat.add_mul]
   congr 1
   omega
  ·simp only [Array.toList_append,List.append_assoc]
   rw [← List.append_assoc,← hlen]
   exact List.take_left
 have gr : ∀ o : Obj,w.grownBy (w.drew.alloc o) none:=fun o=>⟨rfl,rfl,rfl,by simp,fun k hk _=>Below.heap_alloc w.drew _ k hk⟩
 rcases hown.2 with ⟨rfl,rfl⟩ | ⟨g,cap,cur,rfl,hbg,hg,hnc,hcm,hcs,htake⟩
 ·have hx : xs = []:=List.eq_nil_of_length_eq_zero (by simpa using hown.1)
  subst hx
  have hr:=run_append_nil (P:=P) w t ty E inf z ht hi hz ad m c news hl hnews hm (by omega) (by have hb:=hbytes; simp only [Nat.zero_add] at hb; omega)
  have hgr:=grown 0
  simp only [Nat.zero_add,List.nil_append,Array.empty_append] at hgr ⊢
  exact ⟨_,_,_,hr,hgr,by simp,.inr ⟨rfl,gr _⟩⟩
 ·by_cases hroom : n + m ≤ cap
  ·have hfit : n * inf.size + news.length ≤ cur.size:=by rw [hl,hcs,← Nat.add_mul]; exact Nat.mul_le_mul_right _ hroom
   have hr:=run_append_room (P:=P) w t ty E inf ht hi g n cap cur hg ad m c news hl hnews h1 hroom hfit
   refine ⟨g,cap,_,hr,⟨hlen,.inr ⟨g,cap,_,rfl,hbg,setRow_heap w g cur _ E _ hg,hroom,hcm,?_,?_⟩⟩,blk_lt (setRow_heap w g cur _ E _ hg),.inl ⟨rfl,⟨rfl,rfl,rfl,by simp,fun k _ hk=>setRow_other w g k _ (fun e=>hk (by rw [e]))⟩⟩⟩
   ·simp only [List.size_toArray,List.length_append,List.length_take,List.length_drop,Array.length_toList]
    omega
   ·rw [htake,← hlen]
    exact List.take_left
  ·have holds : ∀ j u,xs[j]? = some u → w.cell? ((⟨g,0,none⟩ : Addr).add j) = some u:=hown.cells (g:=g) rfl
   have hr:=run_append_grow (P:=P) w t ty E inf z ht hi hz ⟨g,0,none⟩ n cap xs hown.1 holds ad m c news hl hnews (by omega) (by omega) (growslice_fits (by omega) hbytes)
   exact ⟨_,_,_,hr,grown cap,by simp,.inr ⟨rfl,gr _⟩⟩
def AppMoves (P : Program) (w : World) (t tx ty E : TypeId) (k : Nat) (v : Value) (n : Nat) (xs : List Value) (src : Value) (m : Nat) (news : List Value) : Prop :=
 ∃ g cap w',(Builtin.append_ #[t,tx] ty #[v,src]).run P w = .ok (.slice (some ⟨g,0,none⟩) (n + m) cap) w' ∧ w'.ownsRow 0 E k (.slice (some ⟨g,0,none⟩) (n + m) cap) (n + m) (xs ++ news) ∧ g < w'.heap.size ∧
   ((v.ownBlock = some g ∧ w.grownBy w' (some g)) ∨ (g = w.heap.size ∧ w.grownBy w' none))
theorem append_moves_str {P : Program} (w : World) (t u ty E : TypeId) (inf : TypeInfo) (ht : P.underlying t = some (.slice E)) (hu : P.underlying u = some .string) (hi : P.info? E = some inf) (hz : inf.zero = some (.int .u8 0)) (hs : inf.size = 1) (hby : inf.bytes = 1)
  (v : Value) (n : Nat) (xs : List Value) (hown : w.ownsRow 0 E 1 v n xs) (s : ByteArray) (hm : 0 < s.size) (h63 : n + s.size ≤ maxLen) (hbytes : n + s.size ≤ 140737488355328) :
  AppMoves P w t u ty E 1 v n xs (.string s) s.size (Lib.strCells s):=by
 have hxl : xs.length = n:=by simpa using hown.1
 have hlen : (xs ++ Lib.strCells s).length = (n + s.size) * 1:=by rw [List.length_append,hxl,Lib.strCells_length,Nat.mul_one]
 have h63' : n + s.size ≤ 9223372036854775807:=h63
 have grown : ∀ old : Nat,(w.drew.alloc (.cells (xs.toArray ++ (Lib.strCells s).toArray ++ Builtin.zeroCells (Value.int .u8 0).cells (grownCap w (n + s.size) old E - (n + s.size))) E)).ownsRow 0 E 1 (.slice (some ⟨w.heap.size,0,none⟩) (n + s.size) (grownCap w (n + s.size) old E)) (n + s.size) (xs ++ Lib.strCells s):=fun old=>by
  have hge:=grownCap_ge w (n + s.size) old E
  refine ⟨hlen,.inr ⟨w.heap.size,_,_,rfl,Nat.zero_le _,blk_new w.drew _,hge,grownCap_le_maxLen w (n + s.size) old E h63,?_,?_⟩⟩
  ·have hz1 : (Value.int IntKind.u8 0).cells.size = 1:=rfl
   simp only [Array.size_append,List.size_toArray,size_zeroCells,hz1,hxl,Lib.strCells_length]
   omega
  ·simp only [Array.toList_append,List.append_assoc]
   rw [← List.append_assoc,← hlen]
   exact List.take_left
 have gr : ∀ o : Obj,w.grownBy (w.drew.alloc o) none:=fun o=>⟨rfl,rfl,rfl,by simp,fun k hk _=>Below.heap_alloc w.drew _ k hk⟩
 rcases hown.2 with ⟨rfl,rfl⟩ | ⟨g,cap,cur,rfl,hbg,hg,hnc,hcm,hcs,htake⟩
 ·have hx : xs = []:=List.eq_nil_of_length_eq_zero (by simpa using hown.1)
  subst hx
  have hr:=run_append_nil_string (P:=P) w t u ty E inf (.int .u8 0) ht hu hi hz s (by omega) (by omega) (by rw [hby]; omega)
  have e1 : (s.data.map fun b=>Value.int .u8 b.toNat) = (Lib.strCells s).toArray:=by
   apply Array.ext'
   simp [Lib.strCells]
  rw [e1] at hr
  have hgr:=grown 0
  unfold AppMoves
  simp only [Nat.zero_add,List.nil_append,Array.empty_append] at hgr ⊢
  exact ⟨_,_,_,hr,hgr,by simp,.inr ⟨rfl,gr _⟩⟩
 ·by_cases hroom : n + s.size ≤ cap
  ·have hcs' : cur.size = cap:=by simpa using hcs
   have hr:=Lib.run_append_room_string (P:=P) w t u ty E inf ht hu hi hs g n cap cur hg s hroom (by omega)
   refine ⟨g,cap,_,hr,⟨hlen,.inr ⟨g,cap,_,rfl,hbg,setRow_heap w g cur _ E _ hg,hroom,hcm,?_,?_⟩⟩,blk_lt (setRow_heap w g cur _ E _ hg),.inl ⟨rfl,⟨rfl,rfl,rfl,by simp,fun k _ hk=>setRow_other w g k _ (fun e=>hk (by rw [e]))⟩⟩⟩
   ·simp only [List.size_toArray,List.length_append,List.length_take,List.length_drop,Array.length_toList,Lib.strCells_length]
    omega
   ·have ht' : cur.toList.take n = xs:=by simpa using htake
    rw [ht',← hlen]
    exact List.take_left
  ·have holds : ∀ j u,xs[j]? = some u → w.cell? ((⟨g,0,none⟩ : Addr).add j) = some u:=hown.cells (g:=g) rfl
   have hr:=Lib.run_append_grow_string (P:=P) w t u ty E inf (.int .u8 0) ht hu hi hz ⟨g,0,none⟩ n cap xs (by rw [hs]; simpa using hxl) holds s (by omega) (by omega) (by rw [hby]; exact growslice_fits (by omega) (by omega))
   exact ⟨_,_,_,hr,grown cap,by simp,.inr ⟨rfl,gr _⟩⟩
def AppM (P : Program) (M : Sem Value) (w : World) (E : TypeId) (k : Nat) (v : Value) (n : Nat) (xs : List Value) (m : Nat) (news : List Value) : Prop :=
 ∃ g cap w',M.run P w = .ok (.slice (some ⟨g,0,none⟩) (n + m) cap) w' ∧ w'.ownsRow 0 E k (.slice (some ⟨g,0,none⟩) (n + m) cap) (n + m) (xs ++ news) ∧ g < w'.heap.size ∧
   ((v.ownBlock = some g ∧ w.grownBy w' (some g)) ∨ (g = w.heap.size ∧ w.grownBy w' none))
theorem append_full {P : Program} (w : World) (t ty E : TypeId) (inf : TypeInfo) (z : Value) (k : Nat) (ht : P.underlying t = some (.slice E)) (hi : P.info? E = some inf) (hz : inf.zero = some z) (hs : inf.size = k) (hzs : z.cells.size = k)
  (A : Option Addr) (n : Nat) (olds : List Value) (hlo : olds.length = n * k) (holds : 0 < n → ∃ b,A = some b ∧ ∀ j u,olds[j]? = some u → w.cell? (b.add j) = some u)
  (ad : Addr) (m c : Nat) (news : List Value) (hl : news.length = m * k) (hnews : ∀ j u,news[j]? = some u → w.cell? (ad.add j) = some u)
  (hm : 0 < m) (h63 : n + m ≤ maxLen) (hbytes : (n + m) * inf.bytes ≤ 140737488355328) :
  AppM P (Builtin.append_ #[t,t] ty #[.slice A n n,.slice (some ad) m c]) w E k (.slice none 0 0) 0 [] (n + m) (olds ++ news):=by
 subst hs
 have hlen : (olds ++ news).length = (n + m) * inf.size:=by rw [List.length_append,hlo,hl,Nat.add_mul]
 have h63' : n + m ≤ 9223372036854775807:=h63
 have gr : ∀ o : Obj,w.grownBy (w.drew.alloc o) none:=fun o=>⟨rfl,rfl,rfl,by simp,fun k hk _=>Below.heap_alloc w.drew _ k hk⟩
 have grown : ∀ old : Nat,(w.drew.alloc (.cells (olds.toArray ++ news.toArray ++ Builtin.zeroCells z.cells (grownCap w (n + m) old E - (n + m))) E)).ownsRow 0 E inf.size (.slice (some ⟨w.heap.size,0,none⟩) (n + m) (grownCap w (n + m) old E)) (n + m) (olds ++ news):=fun old=>by
  have hge:=grownCap_ge w (n + m) old E
  refine ⟨hlen,.inr ⟨w.heap.size,_,_,rfl,Nat.zero_le _,blk_new w.drew _,hge,grownCap_le_maxLen w (n + m) old E h63,?_,?_⟩⟩
  ·simp only [Array.size_append,List.size_toArray,size_zeroCells,hzs,hlo,hl,← Nat.add_mul]
   congr 1
   omega
  ·simp only [Array.toList_append,List.append_assoc]
   rw [← List.append_assoc,← hlen]
   exact List.take_left
 have key : ∀ (cap : Nat) (o : Obj),(Builtin.append_ #[t,t] ty #[.slice A n n,.slice (some ad) m c]).run P w = .ok (.slice (some ⟨w.heap.size,0,none⟩) (n + m) cap) (w.drew.alloc o) → (w.drew.alloc o).ownsRow 0 E inf.size (.slice (some ⟨w.heap.size,0,none⟩) (n + m) cap) (n + m) (olds ++ news) → AppM P (Builtin.append_ #[t,t] ty #[.slice A n n,.slice (some ad) m c]) w E inf.size (.slice none 0 0) 0 [] (n + m) (olds ++ news):=fun cap o hr hg =>
  ⟨w.heap.size,cap,w.drew.alloc o,by rw [Nat.zero_add]; exact hr,by rw [Nat.zero_add,List.nil_append]; exact hg,by simp,.inr ⟨rfl,gr o⟩⟩
 have fin : ∀ old : Nat,(Builtin.append_ #[t,t] ty #[.slice A n n,.slice (some ad) m c]).run P w = .ok (.slice (some ⟨w.heap.size,0,none⟩) (n + m) (grownCap w (n + m) old E)) (w.drew.alloc (.cells (olds.toArray ++ news.toArray ++ Builtin.zeroCells z.cells (grownCap w (n + m) old E - (n + m))) E)) → AppM P (Builtin.append_ #[t,t] ty #[.slice A n n,.slice (some ad) m c]) w E inf.size (.slice none 0 0) 0 [] (n + m) (olds ++ news):=fun old hr=>key _ _ hr (grown old)
 have hbits : Builtin.nextslicecap (n + m) n * inf.bytes ≤ 281474976710656:=growslice_fits (by omega) hbytes
 rcases Nat.eq_zero_or_pos n with h0 | hn
 ·subst h0
  have ho : olds = []:=List.eq_nil_of_length_eq_zero (by simpa using hlo)
  subst ho
  cases A with
  | none =>
   have hr:=run_append_nil (P:=P) w t ty E inf z ht hi hz ad m c news hl hnews hm (by omega) (by have hb:=hbytes; simp only [Nat.zero_add] at hb; omega)
   refine fin 0 ?_
   simpa using hr
  | some b =>
   exact fin 0 (run_append_grow (P:=P) w t ty E inf z ht hi hz b 0 0 [] hlo (fun j u h=>by simp at h) ad m c news hl hnews (by omega) (by omega) hbits)
 ·obtain ⟨b,rfl,hb⟩:=holds hn
  exact fin n (run_append_grow (P:=P) w t ty E inf z ht hi hz b n n olds hlo hb ad m c news hl hnews (by omega) (by omega) hbits)
theorem rel_appendM {P : Program} {Pr : Prot} {φ : Fi2} {S : ASt} {w : World} (h : Rel Pr φ S w) {d i k n : Nat} {E : TypeId} {rows rows2 : List (List PV)} {x : Value}
  (ho : get2 S d i = some (.tok E k n)) (hx : RA Pr φ (.osl k rows d i) x) (hn : rows.length = n)
  {M : Sem Value} {news : List Value} (hm : 0 < rows2.length) (hw2 : Wide k rows2) (hr2 : RowsAt Pr k rows2 news)
  (hb : n + rows2.length ≤ 4294967296) (hmv : ∀ xs,w.ownsRow 0 E k x n xs → AppM P M w E k x n xs rows2.length news) :
  ∃ v' w' Pr' φ',M.run P w = .ok v' w' ∧ Stp Pr φ w Pr' φ' w' ∧ Rel Pr' φ' (set2 S d i (.tok E k (n + rows2.length))) w' ∧ RA Pr' φ' (.osl k (rows ++ rows2) d i) v':=by
 obtain ⟨e,he,htok,hen,hek,hk0,hobj⟩:=h.obj d i _ ho
 have hcap32 : n + rows2.length ≤ maxLen:=by unfold maxLen; omega
 have hown : ∃ xs,w.ownsRow 0 E k x n xs ∧ RowsAt Pr k rows xs ∧ Wide k rows ∧ (∀ g,x.ownBlock = some g → e.blk = some g) ∧ (x.ownBlock = none → n = 0) ∧ ∀ g,x.ownBlock = some g → ∀ o v,Pr g o = some v → xs[o]? = some v:=by
  cases hx with
  | onil a b c =>
   exact ⟨[],by subst hn; exact World.ownsRow_nil _ _ _ _,fun r row j p a b=>by simp at a,fun r row a=>by simp at a,fun g hg=>by simp [Value.ownBlock] at hg,fun _=>by simp at hn; omega,fun g hg=>by simp [Value.ownBlock] at hg⟩
  | @osl _ _ _ g cap e' vs a1 a2 a3 a4 a5 a6 a7 a8 a9 a10 =>
   rw [he] at a1
   cases a1
   obtain ⟨hblk,hcap⟩:=a5 (by rw [hn,hen])
   rcases hobj with ⟨h0,_⟩ | ⟨g',cur,hg',hheap,hsz,hn0,hnc,hcm,hun⟩
   ·omega
   ·rw [hblk] at hg'
    cases hg'
    subst hcap hn
    have hlen : (cur.toList.take (rows.length * e.k)).length = rows.length * e.k:=by
     have hcl : cur.toList.length = e.cap * e.k:=by rw [Array.length_toList]; exact hsz
     rw [List.length_take,hcl]
     exact Nat.min_eq_left (Nat.mul_le_mul_right _ hnc)
    have hget : ∀ o,o < rows.length * e.k → (cur.toList.take (rows.length * e.k))[o]? = w.cell? ⟨g,o,none⟩:=fun o ho=>by
     rw [List.getElem?_take_of_lt ho,cell_blk hheap,Array.getElem?_toList]
    refine ⟨cur.toList.take (rows.length * e.k),⟨hlen,.inr ⟨g,e.cap,cur,rfl,Nat.zero_le _,hheap,hnc,hcm,hsz,rfl⟩⟩,fun r row j p a b=>?_,a8,fun g' hg=>by simp [Value.ownBlock] at hg; rw [hblk,hg],fun hg=>by simp [Value.ownBlock] at hg,fun g' hg o v hv=>?_⟩
    ·have hr : r < rows.length:=(List.getElem?_eq_some_iff.1 a).1
     have hj : j < e.k:=by rw [← a8 _ _ a]; exact (List.getElem?_eq_some_iff.1 b).1
     have hlt : r * e.k + j < rows.length * e.k:=by
      have : (r + 1) * e.k ≤ rows.length * e.k:=Nat.mul_le_mul_right _ (by omega)
      rw [Nat.add_mul] at this
      omega
     refine ⟨vs r j,?_,a10 _ _ _ _ a b⟩
     rw [hget _ hlt]
     exact h.pr _ _ _ (a9 _ _ _ _ a b)
    ·simp [Value.ownBlock] at hg
     subst hg
     have ho : o < rows.length * e.k:=by
      rcases Nat.lt_or_ge o (rows.length * e.k) with h' | h'
      ·exact h'
      ·rw [hun o h'] at hv; cases hv
     rw [hget _ ho]
     exact h.pr _ _ _ hv
 obtain ⟨xs,hown,hrx,hwx,hxb,hxn,hxp⟩:=hown
 obtain ⟨g,cap,w',hrun,hown',hlt,hat0⟩:=hmv xs hown
 have hat : x.ownBlock = some g ∨ g = w.heap.size:=hat0.imp (·.1) (·.1)
 have hgrow : w.grownBy w' (some g):=by
  rcases hat0 with ⟨_,h⟩ | ⟨_,h⟩
  ·exact h
  ·exact ⟨h.os,h.tape,h.output,h.size,fun k hk _=>h.block k hk (by simp)⟩
 obtain ⟨hlen',hrow'⟩:=hown'
 rcases hrow' with ⟨hc,_⟩ | ⟨g0,cap0,cur,hv0,_,hheap,hnc,hcm,hsz,htake⟩
 ·cases hc
 cases hv0
 have hxl : xs.length = rows.length * k:=by rw [hown.1,hn]
 have hget : ∀ o,o < (n + rows2.length) * k → w'.cell? ⟨g,o,none⟩ = (xs ++ news)[o]?:=fun o ho=>by
  rw [cell_blk hheap,← htake,List.getElem?_take_of_lt ho,Array.getElem?_toList]
 have hfresh : x.ownBlock = some g ∨ ∀ o,Pr g o = none:=by
  rcases hat with hat | hat
  ·exact .inl hat
  ·refine .inr fun o=>?_
   cases hv : Pr g o with
   | none=>rfl
   | some v=>have:=pr_lt h hv; omega
 have hold : ∀ o v,Pr g o = some v → (xs ++ news)[o]? = some v:=fun o v hv=>by
  rcases hfresh with hf | hf
  ·have:=hxp g hf o v hv
   rw [List.getElem?_append_left (List.getElem?_eq_some_iff.1 this).1]; exact this
  ·rw [hf o] at hv; cases hv
 have holt : ∀ o v,Pr g o = some v → o < (n + rows2.length) * k:=fun o v hv=>by
  have:=(List.getElem?_eq_some_iff.1 (hold o v hv)).1
  rw [hlen'] at this
  exact this
 let Pr' : Prot:=fun b o=>if b = g ∧ o < (n + rows2.length) * k then (xs ++ news)[o]? else Pr b o
 have hle : Pr.le Pr':=fun b o v hv=>by
  show (if b = g ∧ o < (n + rows2.length) * k then (xs ++ news)[o]? else Pr b o) = some v
  split
  ·rename_i hb
   obtain ⟨rfl,_⟩:=hb
   exact hold o v hv
  ·exact hv
 let e2 : Ent:={ e with blk:=some g,cap:=cap,n:=n + rows2.length }
 have hee : e.le e2:=.inr ⟨htok,htok,by show e.n < n + rows2.length; omega,rfl⟩
 have hF : Fle φ (set2 φ d i e2):=fun d' i' x' hx'=>by
  rw [get2_set _ he]
  split
  ·rename_i hd
   obtain ⟨rfl,rfl⟩:=hd
   rw [he] at hx'; cases hx'
   exact ⟨e2,rfl,hee⟩
  ·exact ⟨x',hx',x'.le_refl⟩
 have hgE : get2 (set2 φ d i e2) d i = some e2:=by rw [get2_set _ he]; simp
 have hother : ∀ d' i' e' g',get2 φ d' i' = some e' → e'.blk = some g' → ¬ (d' = d ∧ i' = i) → g' ≠ g:=fun d' i' e' g' h1 h2 hne hgg=>by
  subst hgg
  rcases hat with hat | hat
  ·have:=h.dis _ _ _ _ _ _ _ h1 he h2 (hxb _ hat)
   exact hne this
  ·have:=h.lt _ _ _ _ h1 h2; omega
 have hkeep : ∀ g',g' < w.heap.size → g' ≠ g → w'.heap[g']? = w.heap[g']?:=fun g' h1 h2=>hgrow.block g' h1 (by simp [h2])
 have hs : Stp Pr φ w Pr' (set2 φ d i e2) w':=by
  refine ⟨hle,hF,fun d' i' e' g' h1 h2=>?_,⟨hgrow.os,hgrow.tape,hgrow.output,hgrow.size,fun g' hg' hnot=>?_⟩,by simp [set2],fun g' o' h0 h2=>?_⟩
  ·rw [get2_set _ he] at h1
   split at h1
   ·cases h1
    cases h2
    rcases hat with hat | hat
    ·exact .inl ⟨d,i,e,he,hxb _ hat⟩
    ·exact .inr (by omega)
   ·exact .inl ⟨d',i',e',h1,h2⟩
  ·refine hkeep g' hg' fun hgg=>?_
   subst hgg
   rcases hat with hat | hat
   ·exact hnot d i e he (hxb _ hat)
   ·omega
  ·have h2' : (if g' = g ∧ o' < (n + rows2.length) * k then (xs ++ news)[o']? else Pr g' o') ≠ none:=h2
   split at h2'
   ·rename_i hh
    obtain ⟨rfl,_⟩:=hh
    rcases hat with hat | hat
    ·exact .inl ⟨d,i,e,he,hxb _ hat⟩
    ·exact .inr (by omega)
   ·exact absurd h0 h2'
 refine ⟨_,w',Pr',set2 φ d i e2,hrun,hs,⟨fun d' i' o' ho'=>?_,fun d1 i1 e1 d2 i2 e2' g' h1 h2 h3 h4=>?_,fun d' i' e' g' h1 h2=>?_,fun b o v hv=>?_,h.tb.of hle hs.fr.block hs.fresh,by rw [set_map,set_map]; exact h.shape⟩,?_⟩
 ·rw [get2_set _ ho] at ho'
  split at ho'
  ·rename_i hd
   obtain ⟨rfl,rfl⟩:=hd
   cases ho'
   refine ⟨e2,hgE,htok,rfl,hek,hk0,.inr ⟨g,cur,rfl,hheap,hsz,by omega,hnc,hcm,fun o ho=>?_⟩⟩
   show (if g = g ∧ o < (n + rows2.length) * k then (xs ++ news)[o]? else Pr g o) = none
   rw [if_neg (by omega)]
   cases hv : Pr g o with
   | none=>rfl
   | some v=>have:=holt o v hv; omega
  ·rename_i hd
   obtain ⟨e',he',hr'⟩:=h.obj d' i' o' ho'
   refine ⟨e',by rw [get2_set _ he,if_neg hd]; exact he',hr'.keep hle (hF.drop d') fun g' hg'=>⟨hkeep g' (h.lt _ _ _ _ he' hg') (hother _ _ _ _ he' hg' hd),fun o hno=>?_⟩⟩
   show (if g' = g ∧ o < (n + rows2.length) * k then (xs ++ news)[o]? else Pr g' o) = none
   rw [if_neg (fun hh=>hother _ _ _ _ he' hg' hd hh.1)]; exact hno
 ·rw [get2_set _ he] at h1 h2
  split at h1
  ·rename_i hd1
   cases h1
   cases h3
   split at h2
   ·rename_i hd2
    exact ⟨hd1.1.trans hd2.1.symm,hd1.2.trans hd2.2.symm⟩
   ·rename_i hd2
    exact absurd rfl (hother _ _ _ _ h2 h4 hd2)
  ·rename_i hd1
   split at h2
   ·cases h2
    cases h4
    exact absurd rfl (hother _ _ _ _ h1 h3 hd1)
   ·exact h.dis _ _ _ _ _ _ _ h1 h2 h3 h4
 ·rw [get2_set _ he] at h1
  split at h1
  ·cases h1; cases h2; exact hlt
  ·exact Nat.lt_of_lt_of_le (h.lt _ _ _ _ h1 h2) hgrow.size
 ·have hv' : (if b = g ∧ o < (n + rows2.length) * k then (xs ++ news)[o]? else Pr b o) = some v:=hv
  split at hv'
  ·rename_i hb'
   obtain ⟨rfl,hlt'⟩:=hb'
   rw [hget o hlt']; exact hv'
  ·rename_i hb'
   have hc:=h.pr b o v hv'
   have hbg : b ≠ g:=fun hbg=>by
    subst hbg
    exact hb' ⟨rfl,holt o v hv'⟩
   rw [← hc]
   exact World.cell?_of_block (a:=⟨b,o,none⟩) (hkeep b (lt_of_cell hc) hbg)
 ·have hlr : (rows ++ rows2).length = n + rows2.length:=by rw [List.length_append,hn]
  have hra:=RowsAt.append hxl hwx hrx hr2 hw2
  have hww:=hwx.append hw2
  have key : ∀ (r : Nat) (row : List PV) (j : Nat) (p : PV),(rows ++ rows2)[r]? = some row → row[j]? = some p → Pr' g (r * k + j) = some ((xs ++ news).getD (r * k + j) undef) ∧ RP Pr' p ((xs ++ news).getD (r * k + j) undef):=fun r row j p a b=>by
   obtain ⟨u,h1,h2⟩:=hra r row j p a b
   have hlt' : r * k + j < (n + rows2.length) * k:=by
    have:=(List.getElem?_eq_some_iff.1 h1).1
    rw [hlen'] at this; exact this
   refine ⟨?_,by rw [List.getD,h1]; exact h2.mono hle⟩
   show (if g = g ∧ r * k + j < (n + rows2.length) * k then (xs ++ news)[r * k + j]? else Pr g (r * k + j)) = _
   rw [if_pos ⟨rfl,hlt'⟩,h1,List.getD,h1]; rfl
  have:=RA.osl (Pr:=Pr') (φ:=set2 φ d i e2) (rows:=rows ++ rows2) (g:=g) (cap:=cap) (fun r j=>(xs ++ news).getD (r * k + j) undef) hgE htok (by rw [hlr]; omega) (by rw [hlr]; exact Nat.le_refl _) (fun _=>⟨rfl,rfl⟩) (by rw [hlr]; exact hnc) hcm
   (fun r row a=>by rw [show e2.k = k from hek]; exact hww r row a) (fun r row j p a b=>by rw [show e2.k = k from hek]; exact (key r row j p a b).1) (fun r row j p a b=>(key r row j p a b).2)
  rw [hlr,show e2.k = k from hek] at this
  exact this
theorem rel_append {P : Program} {Pr : Prot} {φ : Fi2} {S : ASt} {w : World} (h : Rel Pr φ S w) {d i k n : Nat} {E : TypeId} {rows rows2 : List (List PV)} {x : Value}
  (ho : get2 S d i = some (.tok E k n)) (hx : RA Pr φ (.osl k rows d i) x) (hn : rows.length = n)
  {t tx ty : TypeId} {src : Value} {news : List Value} (hm : 0 < rows2.length) (hw2 : Wide k rows2) (hr2 : RowsAt Pr k rows2 news)
  (hb : n + rows2.length ≤ 4294967296) (hmv : ∀ xs,w.ownsRow 0 E k x n xs → AppMoves P w t tx ty E k x n xs src rows2.length news) :
  ∃ v' w' Pr' φ',(Builtin.append_ #[t,tx] ty #[x,src]).run P w = .ok v' w' ∧ Stp Pr φ w Pr' φ' w' ∧ Rel Pr' φ' (set2 S d i (.tok E k (n + rows2.length))) w' ∧ RA Pr' φ' (.osl k (rows ++ rows2) d i) v':=rel_appendM h ho hx hn hm hw2 hr2 hb hmv
theorem rel_appendR {P : Program} {Pr : Prot} {φ : Fi2} {S : ASt} {w : World} (h : Rel Pr φ S w) {d i k n m : Nat} {E : TypeId} {cs cs2 : List AV} {x : Value}
  (ho : get2 S d i = some (.row E k n cs)) (hx : RA Pr φ (.rsl d i n k) x)
  {t tx ty : TypeId} {src : Value} {news : List Value} (hm : 0 < m) (hl2 : cs2.length = m * k) (hc2 : ∀ (j : Nat) (c : AV) (y : Value),cs2[j]? = some c → news[j]? = some y → RA Pr (φ.drop d) c y)
  (hb : n + m ≤ 4294967296) (hmv : ∀ xs,w.ownsRow 0 E k x n xs → AppMoves P w t tx ty E k x n xs src m news) :
  ∃ v' w' φ',(Builtin.append_ #[t,tx] ty #[x,src]).run P w = .ok v' w' ∧ Stp Pr φ w Pr φ' w' ∧ Rel Pr φ' (set2 S d i (.row E k (n + m) (cs ++ cs2))) w' ∧ RA Pr φ' (.rsl d i (n + m) k) v':=by
 obtain ⟨e,he,htok,hen,hek,hk0,hcl,hobj⟩:=h.obj d i _ ho
 have hcap32 : n + m ≤ maxLen:=by unfold maxLen; omega
 have hown : ∃ xs,w.ownsRow 0 E k x n xs ∧ (∀ (j : Nat) (c : AV) (y : Value),cs[j]? = some c → xs[j]? = some y → RA Pr (φ.drop d) c y) ∧ (∀ g,x.ownBlock = some g → e.blk = some g) ∧ ∀ g,x.ownBlock = some g → ∀ o,Pr g o = none:=by
  generalize hkk : k = k' at hx
  cases hx with
  | rnil a b c =>
   exact ⟨[],World.ownsRow_nil _ _ _ _,fun j c y a b=>by simp at b,fun g hg=>by simp [Value.ownBlock] at hg,fun g hg=>by simp [Value.ownBlock] at hg⟩
  | @rsl _ _ _ g cap e' a1 a2 a3 a4 a5 a6 a7 =>
   rw [he] at a1
   cases a1
   obtain ⟨hblk,hcap⟩:=a5 hen.symm
   rcases hobj with ⟨h0,_⟩ | ⟨g',cur,hg',hheap,hsz,hn0,hnc,hcm,hcs,hun⟩
   ·omega
   ·rw [hblk] at hg'
    cases hg'
    subst hcap
    rw [hek]
    have hlen : (cur.toList.take (n * k)).length = n * k:=by
     have hcl : cur.toList.length = e.cap * k:=by rw [Array.length_toList]; exact hsz
     rw [List.length_take,hcl]
     exact Nat.min_eq_left (Nat.mul_le_mul_right _ hnc)
    refine ⟨cur.toList.take (n * k),⟨hlen,.inr ⟨g,e.cap,cur,rfl,Nat.zero_le _,hheap,hnc,hcm,hsz,rfl⟩⟩,fun j c y a b=>?_,fun g' hg=>by simp [Value.ownBlock] at hg; rw [hblk,hg],fun g' hg o=>by simp [Value.ownBlock] at hg; rw [← hg]; exact hun o⟩
    rw [List.getElem?_take] at b
    split at b
    ·exact hcs j c y a (by simpa using b)
    ·cases b
 obtain ⟨xs,hown,hrx,hxb,hxp⟩:=hown
 obtain ⟨g,cap,w',hrun,hown',hlt,hat0⟩:=hmv xs hown
 have hat : x.ownBlock = some g ∨ g = w.heap.size:=hat0.imp (·.1) (·.1)
 have hgrow : w.grownBy w' (some g):=by
  rcases hat0 with ⟨_,h⟩ | ⟨_,h⟩
  ·exact h
  ·exact ⟨h.os,h.tape,h.output,h.size,fun k hk _=>h.block k hk (by simp)⟩
 obtain ⟨hlen',hrow'⟩:=hown'
 rcases hrow' with ⟨hc,_⟩ | ⟨g0,cap0,cur,hv0,_,hheap,hnc,hcm,hsz,htake⟩
 ·cases hc
 cases hv0
 have hxl : xs.length = n * k:=hown.1
 have hun : ∀ o,Pr g o = none:=fun o=>by
  rcases hat with hat | hat
  ·exact hxp g hat o
  ·cases hv : Pr g o with
   | none=>rfl
   | some v=>have:=pr_lt h hv; omega
 let e2 : Ent:={ e with blk:=some g,cap:=cap,n:=n + m }
 have hee : e.le e2:=.inr ⟨htok,htok,by show e.n < n + m; omega,rfl⟩
 have hF : Fle φ (set2 φ d i e2):=fun d' i' x' hx'=>by
  rw [get2_set _ he]
  split
  ·rename_i hd
   obtain ⟨rfl,rfl⟩:=hd
   rw [he] at hx'; cases hx'
   exact ⟨e2,rfl,hee⟩
  ·exact ⟨x',hx',x'.le_refl⟩
 have hgE : get2 (set2 φ d i e2) d i = some e2:=by rw [get2_set _ he]; simp
 have hother : ∀ d' i' e' g',get2 φ d' i' = some e' → e'.blk = some g' → ¬ (d' = d ∧ i' = i) → g' ≠ g:=fun d' i' e' g' h1 h2 hne hgg=>by
  subst hgg
  rcases hat with hat | hat
  ·have:=h.dis _ _ _ _ _ _ _ h1 he h2 (hxb _ hat)
   exact hne this
  ·have:=h.lt _ _ _ _ h1 h2; omega
 have hkeep : ∀ g',g' < w.heap.size → g' ≠ g → w'.heap[g']? = w.heap[g']?:=fun g' h1 h2=>hgrow.block g' h1 (by simp [h2])
 have hs : Stp Pr φ w Pr (set2 φ d i e2) w':=by
  refine ⟨Prot.le_refl _,hF,fun d' i' e' g' h1 h2=>?_,⟨hgrow.os,hgrow.tape,hgrow.output,hgrow.size,fun g' hg' hnot=>?_⟩,by simp [set2],fun g' o' h0 h2=>absurd h0 h2⟩
  ·rw [get2_set _ he] at h1
   split at h1
   ·cases h1
    cases h2
    rcases hat with hat | hat
    ·exact .inl ⟨d,i,e,he,hxb _ hat⟩
    ·exact .inr (by omega)
   ·exact .inl ⟨d',i',e',h1,h2⟩
  ·refine hkeep g' hg' fun hgg=>?_
   subst hgg
   rcases hat with hat | hat
   ·exact hnot d i e he (hxb _ hat)
   ·omega
 refine ⟨_,w',set2 φ d i e2,hrun,hs,⟨fun d' i' o' ho'=>?_,fun d1 i1 e1 d2 i2 e2' g' h1 h2 h3 h4=>?_,fun d' i' e' g' h1 h2=>?_,fun b o v hv=>?_,h.tb.of (Prot.le_refl _) hs.fr.block hs.fresh,by rw [set_map,set_map]; exact h.shape⟩,?_⟩
 ·rw [get2_set _ ho] at ho'
  split at ho'
  ·rename_i hd
   obtain ⟨rfl,rfl⟩:=hd
   cases ho'
   refine ⟨e2,hgE,htok,rfl,hek,hk0,by rw [List.length_append,hcl,hl2,Nat.add_mul],.inr ⟨g,cur,rfl,hheap,hsz,by omega,hnc,hcm,fun j c y a b=>?_,hun⟩⟩
   have hj : j < (n + m) * k:=by
    have:=(List.getElem?_eq_some_iff.1 a).1
    rw [List.length_append,hcl,hl2,← Nat.add_mul] at this
    exact this
   have hb : (xs ++ news)[j]? = some y:=by
    rw [← htake,List.getElem?_take_of_lt hj,Array.getElem?_toList]; exact b
   have hd2 : Fle (φ.drop d') ((set2 φ d' i' e2).drop d'):=hF.drop d'
   rcases Nat.lt_or_ge j (n * k) with hjn | hjn
   ·rw [List.getElem?_append_left (by rw [hcl]; exact hjn)] at a
    rw [List.getElem?_append_left (by rw [hxl]; exact hjn)] at hb
    exact (hrx j c y a hb).mono (Prot.le_refl _) hd2
   ·rw [List.getElem?_append_right (by rw [hcl]; exact hjn),hcl] at a
    rw [List.getElem?_append_right (by rw [hxl]; exact hjn),hxl] at hb
    exact (hc2 _ c y a hb).mono (Prot.le_refl _) hd2
  ·rename_i hd
   obtain ⟨e',he',hr'⟩:=h.obj d' i' o' ho'
   exact ⟨e',by rw [get2_set _ he,if_neg hd]; exact he',hr'.keep (Prot.le_refl _) (hF.drop d') fun g' hg'=>⟨hkeep g' (h.lt _ _ _ _ he' hg') (hother _ _ _ _ he' hg' hd),fun o hno=>hno⟩⟩
 ·rw [get2_set _ he] at h1 h2
  split at h1
  ·rename_i hd1
   cases h1
   cases h3
   split at h2
   ·rename_i hd2
    exact ⟨hd1.1.trans hd2.1.symm,hd1.2.trans hd2.2.symm⟩
   ·rename_i hd2
    exact absurd rfl (hother _ _ _ _ h2 h4 hd2)
  ·rename_i hd1
   split at h2
   ·cases h2
    cases h4
    exact absurd rfl (hother _ _ _ _ h1 h3 hd1)
   ·exact h.dis _ _ _ _ _ _ _ h1 h2 h3 h4
 ·rw [get2_set _ he] at h1
  split at h1
  ·cases h1; cases h2; exact hlt
  ·exact Nat.lt_of_lt_of_le (h.lt _ _ _ _ h1 h2) hgrow.size
 ·have hc:=h.pr b o v hv
  have hbg : b ≠ g:=fun hbg=>by
   subst hbg
   rw [hun o] at hv; cases hv
  rw [← hc]
  exact World.cell?_of_block (a:=⟨b,o,none⟩) (hkeep b (lt_of_cell hc) hbg)
 ·have:=RA.rsl (Pr:=Pr) (φ:=set2 φ d i e2) (n:=n + m) (g:=g) (cap:=cap) hgE htok (by omega) (Nat.le_refl _) (fun _=>⟨rfl,rfl⟩) hnc hcm
  rw [show e2.k = k from hek] at this
  exact this
end Go.Proofs.YtfiohepfohhibaaDoor
namespace Go.Proofs.YtfiohepfohhibaaDoor
open Go.RowKit
theorem rel_push {Pr : Prot} {φ : Fi2} {S : ASt} {w : World} (h : Rel Pr φ S w) : Rel Pr ([] :: φ) ([] :: S) w:=by
 refine ⟨fun d i o ho=>?_,fun d i e d' i' e' g h1 h2 h3 h4=>?_,fun d i e g h1 h2=>?_,h.pr,fun g cs hm=>⟨(h.tb g cs hm).1,(h.tb g cs hm).2.1,(h.tb g cs hm).2.2.1,fun d i e he=>by
  cases d with
  | zero=>simp [get2] at he
  | succ d=>exact (h.tb g cs hm).2.2.2 d i e he⟩,by simp [h.shape]⟩
 ·cases d with
  | zero=>simp [get2] at ho
  | succ d=>exact h.obj d i o ho
 ·cases d with
  | zero=>simp [get2] at h1
  | succ d =>
   cases d' with
   | zero=>simp [get2] at h2
   | succ d' =>
    have:=h.dis d i e d' i' e' g h1 h2 h3 h4
    exact ⟨by omega,this.2⟩
 ·cases d with
  | zero=>simp [get2] at h1
  | succ d=>exact h.lt d i e g h1 h2
theorem rel_pop {Pr : Prot} {l : List Ent} {φ : Fi2} {L : List AObj} {S : ASt} {w : World} (h : Rel Pr (l :: φ) (L :: S) w) : Rel Pr φ S w:=by
 refine ⟨fun d i o ho=>h.obj (d + 1) i o ho,fun d i e d' i' e' g h1 h2 h3 h4=>?_,fun d i e g h1 h2=>h.lt (d + 1) i e g h1 h2,h.pr,fun g cs hm=>⟨(h.tb g cs hm).1,(h.tb g cs hm).2.1,(h.tb g cs hm).2.2.1,fun d i e he=>(h.tb g cs hm).2.2.2 (d + 1) i e he⟩,by have:=h.shape; simp at this; exact this.2⟩
 have:=h.dis (d + 1) i e (d' + 1) i' e' g h1 h2 h3 h4
 exact ⟨by omega,this.2⟩
theorem stp_pop {Pr Pr' : Prot} {l' : List Ent} {φ φ1 : Fi2} {w w' : World} (h : Stp Pr ([] :: φ) w Pr' (l' :: φ1) w') : Stp Pr φ w Pr' φ1 w':=by
 refine ⟨h.pl,fun d i e he=>h.fl (d + 1) i e he,fun d i e g he hg=>?_,⟨h.fr.os,h.fr.tape,h.fr.output,h.fr.size,fun g hg hn=>h.fr.block g hg fun d i e he=>?_⟩,by have:=h.len; simpa using this,fun g o h0 h2=>?_⟩
 ·rcases h.fresh (d + 1) i e g he hg with ⟨d0,i0,e0,h1,h2⟩ | h1
  ·cases d0 with
   | zero=>simp [get2] at h1
   | succ d0=>exact .inl ⟨d0,i0,e0,h1,h2⟩
  ·exact .inr h1
 ·cases d with
  | zero=>simp [get2] at he
  | succ d=>exact hn d i e he
 ·rcases h.pn g o h0 h2 with ⟨d,i,e,he,hb⟩ | h3
  ·cases d with
   | zero=>simp [get2] at he
   | succ d=>exact .inl ⟨d,i,e,he,hb⟩
  ·exact .inr h3
theorem rel_ghost {Pr : Prot} {φ : Fi2} {S : ASt} {w : World} (h : Rel Pr φ S w) (hne : φ ≠ []) (E : TypeId) (k : Nat) (hk : 0 < k) :
  ∃ φ',Stp Pr φ w Pr φ' w ∧ Rel Pr φ' (add2 (.tok E k 0) S) w ∧ RA Pr φ' (.osl k [] 0 (top S)) (.slice none 0 0):=by
 have ht : top φ = top S:=top_map h.shape
 have hnew : get2 (add2 ⟨true,none,0,0,k⟩ φ) 0 (top S) = some ⟨true,none,0,0,k⟩:=by rw [← ht]; exact get2_add_new _ _
 refine ⟨add2 ⟨true,none,0,0,k⟩ φ,⟨Prot.le_refl _,ent_le_add _ _,fun d i e g he hg=>?_,⟨rfl,rfl,rfl,Nat.le_refl _,fun _ _ _=>rfl⟩,add_len _ _ hne,fun g o h k=>absurd h k⟩,⟨fun d i o ho=>?_,fun d i e d' i' e' g h1 h2 h3 h4=>?_,fun d i e g h1 h2=>?_,h.pr,h.tb.of (Prot.le_refl _) (fun _ _ _=>rfl) (fun d i e g he hg=>by
  rw [get2_add] at he
  split at he
  ·cases he; cases hg
  ·exact .inl ⟨d,i,e,he,hg⟩),add_map h.shape _ _⟩,.onil hnew rfl fun _=>rfl⟩
 ·rw [get2_add] at he
  split at he
  ·cases he; cases hg
  ·exact .inl ⟨d,i,e,he,hg⟩
 ·rw [get2_add] at ho
  split at ho
  ·rename_i hd
   obtain ⟨rfl,rfl⟩:=hd
   cases ho
   exact ⟨_,hnew,rfl,rfl,rfl,hk,.inl ⟨rfl,rfl⟩⟩
  ·obtain ⟨e,he,hr⟩:=h.obj d i o ho
   exact ⟨e,get2_add_old _ he,hr.keep (Prot.le_refl _) ((ent_le_add _ _).drop d) fun g hg=>⟨rfl,fun _ h=>h⟩⟩
 ·rw [get2_add] at h1 h2
  split at h1
  ·cases h1; cases h3
  ·split at h2
   ·cases h2; cases h4
   ·exact h.dis d i e d' i' e' g h1 h2 h3 h4
 ·rw [get2_add] at h1
  split at h1
  ·cases h1; cases h2
  ·exact h.lt d i e g h1 h2
theorem rel_ghostR {Pr : Prot} {φ : Fi2} {S : ASt} {w : World} (h : Rel Pr φ S w) (hne : φ ≠ []) (E : TypeId) (k : Nat) (hk : 0 < k) :
  ∃ φ',Stp Pr φ w Pr φ' w ∧ Rel Pr φ' (add2 (.row E k 0 []) S) w ∧ RA Pr φ' (.rsl 0 (top S) 0 k) (.slice none 0 0):=by
 have ht : top φ = top S:=top_map h.shape
 have hnew : get2 (add2 ⟨true,none,0,0,k⟩ φ) 0 (top S) = some ⟨true,none,0,0,k⟩:=by rw [← ht]; exact get2_add_new _ _
 refine ⟨add2 ⟨true,none,0,0,k⟩ φ,⟨Prot.le_refl _,ent_le_add _ _,fun d i e g he hg=>?_,⟨rfl,rfl,rfl,Nat.le_refl _,fun _ _ _=>rfl⟩,add_len _ _ hne,fun g o h k=>absurd h k⟩,⟨fun d i o ho=>?_,fun d i e d' i' e' g h1 h2 h3 h4=>?_,fun d i e g h1 h2=>?_,h.pr,h.tb.of (Prot.le_refl _) (fun _ _ _=>rfl) (fun d i e g he hg=>by
  rw [get2_add] at he
  split at he
  ·cases he; cases hg
  ·exact .inl ⟨d,i,e,he,hg⟩),add_map h.shape _ _⟩,.rnil hnew rfl fun _=>rfl⟩
 ·rw [get2_add] at he
  split at he
  ·cases he; cases hg
  ·exact .inl ⟨d,i,e,he,hg⟩
 ·rw [get2_add] at ho
  split at ho
  ·rename_i hd
   obtain ⟨rfl,rfl⟩:=hd
   cases ho
   exact ⟨_,hnew,rfl,rfl,rfl,hk,by simp,.inl ⟨rfl,rfl⟩⟩
  ·obtain ⟨e,he,hr⟩:=h.obj d i o ho
   exact ⟨e,get2_add_old _ he,hr.keep (Prot.le_refl _) ((ent_le_add _ _).drop d) fun g hg=>⟨rfl,fun _ h=>h⟩⟩
 ·rw [get2_add] at h1 h2
  split at h1
  ·cases h1; cases h3
  ·split at h2
   ·cases h2; cases h4
   ·exact h.dis d i e d' i' e' g h1 h2 h3 h4
 ·rw [get2_add] at h1
  split at h1
  ·cases h1; cases h2
  ·exact h.lt d i e g h1 h2
mutual
def AV.cut (n : Nat) : AV → AV
 | .ptr 0 i o=>if i < n then .ptr 0 i o else .any
 | .ptr (d + 1) i o=>.ptr (d + 1) i o
 | .mp 0 i=>if i < n then .mp 0 i else .any
 | .mp (d + 1) i=>.mp (d + 1) i
 | .asl 0 i m k=>if i < n then .asl 0 i m k else .any
 | .asl (d + 1) i m k=>.asl (d + 1) i m k
 | .rsl 0 i m k=>if i < n then .rsl 0 i m k else .any
 | .rsl (d + 1) i m k=>.rsl (d + 1) i m k
 | .rptr 0 i m o=>if i < n then .rptr 0 i m o else .any
 | .rptr (d + 1) i m o=>.rptr (d + 1) i m o
 | .osl k rows 0 i=>if i < n then .osl k rows 0 i else .p (.sl k rows)
 | .osl k rows (d + 1) i=>.osl k rows (d + 1) i
 | .agg cs=>.agg (AV.cuts n cs)
 | .tup cs=>.tup (AV.cuts n cs)
 | .fn f as bs=>.fn f (AV.cuts n as) (AV.cuts n bs)
 | .bx cs=>.bx (AV.cuts n cs)
 | .any=>.any
 | .un=>.un
 | .bl=>.bl
 | .p q=>.p q
 | .rp cs=>.rp cs
def AV.cuts (n : Nat) : List AV → List AV
 | []=>[]
 | c :: cs=>c.cut n :: AV.cuts n cs
end
theorem cuts_map (n : Nat) : ∀ cs : List AV,AV.cuts n cs = cs.map (AV.cut n)
 | []=>rfl
 | c :: cs=>by simp [AV.cuts,cuts_map n cs]
theorem cuts_get (n : Nat) (cs : List AV) (j : Nat) : (AV.cuts n cs)[j]? = (cs[j]?).map (AV.cut n):=by rw [cuts_map,List.getElem?_map]
theorem cuts_len (n : Nat) (cs : List AV) : (AV.cuts n cs).length = cs.length:=by rw [cuts_map,List.length_map]
theorem get2_take {l : List Ent} {φ : Fi2} {n d i : Nat} {e : Ent} (h : get2 (l :: φ) d i = some e) (hd : d = 0 → i < n) : get2 (l.take n :: φ) d i = some e:=by
 cases d with
 | zero =>
  simp only [get2,List.getElem?_cons_zero,Option.bind_some] at h ⊢
  rw [List.getElem?_take_of_lt (hd rfl)]; exact h
 | succ d=>exact h
theorem RA.cut {Pr : Prot} {l : List Ent} {φ : Fi2} {n : Nat} {v : AV} {x : Value} (h : RA Pr (l :: φ) v x) : RA Pr (l.take n :: φ) (v.cut n) x:=by
 induction h with
 | any x=>exact .any x
 | un=>exact .un
 | bl b=>exact .bl b
 | p h=>exact .p h
 | @ptr d i o g e h1 h2 h3 =>
  cases d with
  | zero =>
   simp only [AV.cut]
   split
   ·rename_i hi; exact .ptr (get2_take h1 fun _=>hi) h2 h3
   ·exact .any _
  | succ d=>exact .ptr (get2_take h1 fun h=>by omega) h2 h3
 | @mp d i g e h1 h2 h3 =>
  cases d with
  | zero =>
   simp only [AV.cut]
   split
   ·rename_i hi; exact .mp (get2_take h1 fun _=>hi) h2 h3
   ·exact .any _
  | succ d=>exact .mp (get2_take h1 fun h=>by omega) h2 h3
 | @asl d i m k g e h1 h2 h3 h4 =>
  cases d with
  | zero =>
   simp only [AV.cut]
   split
   ·rename_i hi; exact .asl (get2_take h1 fun _=>hi) h2 h3 h4
   ·exact .any _
  | succ d=>exact .asl (get2_take h1 fun h=>by omega) h2 h3 h4
 | @rnil d i e h1 h2 h3 =>
  cases d with
  | zero =>
   simp only [AV.cut]
   split
   ·rename_i hi; exact .rnil (get2_take h1 fun _=>hi) h2 h3
   ·exact .any _
  | succ d=>exact .rnil (get2_take h1 fun h=>by omega) h2 h3
 | @rsl d i m g cap e h1 h2 h3 h4 h5 h6 h7 =>
  cases d with
  | zero =>
   simp only [AV.cut]
   split
   ·rename_i hi; exact .rsl (get2_take h1 fun _=>hi) h2 h3 h4 h5 h6 h7
   ·exact .any _
  | succ d=>exact .rsl (get2_take h1 fun h=>by omega) h2 h3 h4 h5 h6 h7
 | @rptr d i m o g e h1 h2 h3 h4 =>
  cases d with
  | zero =>
   simp only [AV.cut]
   split
   ·rename_i hi; exact .rptr (get2_take h1 fun _=>hi) h2 h3 h4
   ·exact .any _
  | succ d=>exact .rptr (get2_take h1 fun h=>by omega) h2 h3 h4
 | rp vs h1 h2=>exact .rp vs h1 h2
 | bx vs h1 _ ih =>
  refine .bx vs (fun j c hc=>?_) (fun j c hc=>?_)
  ·rw [cuts_get] at hc
   obtain ⟨c',h,rfl⟩:=Option.map_eq_some_iff.1 hc
   exact h1 j c' h
  ·rw [cuts_get] at hc
   obtain ⟨c',h,rfl⟩:=Option.map_eq_some_iff.1 hc
   exact ih j c' h
 | @onil d i e h1 h2 h3 =>
  cases d with
  | zero =>
   simp only [AV.cut]
   split
   ·rename_i hi; exact .onil (get2_take h1 fun _=>hi) h2 h3
   ·exact .p (.slemp _ none 0 (Nat.zero_le _))
  | succ d=>exact .onil (get2_take h1 fun h=>by omega) h2 h3
 | @osl rows d i g cap e vs h1 h2 h3 h4 h5 h6 h7 h8 h9 h10 =>
  cases d with
  | zero =>
   simp only [AV.cut]
   split
   ·rename_i hi; exact .osl vs (get2_take h1 fun _=>hi) h2 h3 h4 h5 h6 h7 h8 h9 h10
   ·exact .p (RA.sl (.osl vs h1 h2 h3 h4 h5 h6 h7 h8 h9 h10))
  | succ d=>exact .osl vs (get2_take h1 fun h=>by omega) h2 h3 h4 h5 h6 h7 h8 h9 h10
 | agg h1 _ ih =>
  refine .agg (by rw [cuts_len]; exact h1) fun j c x hc hx=>?_
  rw [cuts_get] at hc
  obtain ⟨c',h,rfl⟩:=Option.map_eq_some_iff.1 hc
  exact ih j c' x h hx
 | tup h1 _ ih =>
  refine .tup (by rw [cuts_len]; exact h1) fun j c x hc hx=>?_
  rw [cuts_get] at hc
  obtain ⟨c',h,rfl⟩:=Option.map_eq_some_iff.1 hc
  exact ih j c' x h hx
 | fn h1 h2 _ _ ih1 ih2 =>
  refine .fn (by rw [cuts_len]; exact h1) (by rw [cuts_len]; exact h2) (fun j c x hc hx=>?_) (fun j c x hc hx=>?_)
  ·rw [cuts_get] at hc
   obtain ⟨c',h,rfl⟩:=Option.map_eq_some_iff.1 hc
   exact ih1 j c' x h hx
  ·rw [cuts_get] at hc
   obtain ⟨c',h,rfl⟩:=Option.map_eq_some_iff.1 hc
   exact ih2 j c' x h hx
def AObj.cut (n : Nat) : AObj → AObj
 | .cells cs t=>.cells (AV.cuts n cs) t
 | .tok e k m=>.tok e k m
 | .row e k m cs=>.row e k m (AV.cuts n cs)
 | .map es=>.map (es.map fun kv=>(kv.1,kv.2.cut n))
 | .dead=>.dead
 | .raw l ob cs xs=>.raw l ob cs xs
def trim (n : Nat) : ASt → ASt
 | L :: S=>(L.take n).map (AObj.cut n) :: S
 | []=>[]
theorem RelO.cut {Pr : Prot} {l : List Ent} {φ : Fi2} {w : World} {n : Nat} {o : AObj} {e : Ent} (h : RelO Pr (l :: φ) w o e) : RelO Pr (l.take n :: φ) w (o.cut n) e:=by
 cases o with
 | dead=>trivial
 | raw l ob cs xs=>exact h
 | cells cs t =>
  obtain ⟨h0,g,xs,h1,h2,h3,h4,h5⟩:=h
  refine ⟨h0,g,xs,h1,h2,by rw [cuts_len]; exact h3,fun j c x a b=>?_,h5⟩
  rw [cuts_get] at a
  obtain ⟨c',h,rfl⟩:=Option.map_eq_some_iff.1 a
  exact (h4 j c' x h b).cut
 | map es =>
  obtain ⟨h0,g,ents,clock,h1,h2,h3,h4,h5,h6⟩:=h
  refine ⟨h0,g,ents,clock,h1,h2,by simpa using h3,fun j kv en a b=>?_,h5,h6⟩
  rw [List.getElem?_map] at a
  obtain ⟨kv',h,rfl⟩:=Option.map_eq_some_iff.1 a
  exact ⟨(h4 j kv' en h b).1,(h4 j kv' en h b).2.cut⟩
 | tok E k m=>exact h
 | row E k m cs =>
  obtain ⟨h0,h1,h2,h3,h5,h4⟩:=h
  refine ⟨h0,h1,h2,h3,by rw [cuts_len]; exact h5,h4.imp id ?_⟩
  rintro ⟨g,xs,a,b,c,d,e1,f,q,i⟩
  refine ⟨g,xs,a,b,c,d,e1,f,fun j c x u v=>?_,i⟩
  rw [cuts_get] at u
  obtain ⟨c',h,rfl⟩:=Option.map_eq_some_iff.1 u
  exact (q j c' x h v).cut
theorem get2_take_inv {l : List Ent} {φ : Fi2} {n d i : Nat} {e : Ent} (h : get2 (l.take n :: φ) d i = some e) : get2 (l :: φ) d i = some e ∧ (d = 0 → i < n):=by
 cases d with
 | zero =>
  simp only [get2,List.getElem?_cons_zero,Option.bind_some] at h ⊢
  rw [List.getElem?_take] at h
  split at h
  ·rename_i hi; exact ⟨h,fun _=>hi⟩
  ·cases h
 | succ d=>exact ⟨h,fun h=>by omega⟩
theorem rel_trim {Pr : Prot} {l : List Ent} {φ : Fi2} {L : List AObj} {S : ASt} {w : World} (h : Rel Pr (l :: φ) (L :: S) w) (n : Nat) : Rel Pr (l.take n :: φ) (trim n (L :: S)) w:=by
 refine ⟨fun d i o ho=>?_,fun d i e d' i' e' g h1 h2 h3 h4=>h.dis d i e d' i' e' g (get2_take_inv h1).1 (get2_take_inv h2).1 h3 h4,fun d i e g h1 h2=>h.lt d i e g (get2_take_inv h1).1 h2,h.pr,fun g cs hm=>⟨(h.tb g cs hm).1,(h.tb g cs hm).2.1,(h.tb g cs hm).2.2.1,fun d i e he=>(h.tb g cs hm).2.2.2 d i e (get2_take_inv he).1⟩,?_⟩
 ·cases d with
  | zero =>
   simp only [trim,get2,List.getElem?_cons_zero,Option.bind_some,List.getElem?_map,Option.map_eq_some_iff] at ho
   obtain ⟨o',ho',rfl⟩:=ho
   rw [List.getElem?_take] at ho'
   split at ho'
   ·rename_i hi
    obtain ⟨e,he,hr⟩:=h.obj 0 i o' ho'
    exact ⟨e,get2_take he fun _=>hi,hr.cut⟩
   ·cases ho'
  | succ d =>
   obtain ⟨e,he,hr⟩:=h.obj (d + 1) i o ho
   exact ⟨e,he,hr⟩
 ·have hs:=h.shape
  simp only [List.map_cons,List.cons.injEq] at hs
  simp [trim,hs.1,hs.2]
theorem stp_trim {Pr0 Pr : Prot} {l0 l : List Ent} {φ0 φ : Fi2} {w0 w : World} (h : Stp Pr0 (l0 :: φ0) w0 Pr (l :: φ) w) {n : Nat} (hn : l0.length ≤ n) : Stp Pr0 (l0 :: φ0) w0 Pr (l.take n :: φ) w:=by
 refine ⟨h.pl,fun d i e he=>?_,fun d i e g he hg=>h.fresh d i e g (get2_take_inv he).1 hg,h.fr,by simpa using h.len,h.pn⟩
 obtain ⟨e',h1,h2⟩:=h.fl d i e he
 refine ⟨e',get2_take h1 fun hd=>?_,h2⟩
 subst hd
 simp only [get2,List.getElem?_cons_zero,Option.bind_some] at he
 have:=(List.getElem?_eq_some_iff.1 he).1
 omega
def wk (a b : List AV) : Prop:=a.length = b.length ∧ ∀ (j : Nat) (c : AV),b[j]? = some c → c = .any ∨ a[j]? = some c
def wkO : AObj → AObj → Prop
 | _,.dead=>True
 | .cells a t,.cells b u=>t = u ∧ wk a b
 | .row E k n a,.row E' k' n' b=>(E = E' ∧ k = k' ∧ n = n') ∧ wk a b
 | o,o'=>o = o'
def wkS (S T : ASt) : Prop:=S.map List.length = T.map List.length ∧ ∀ d i o,get2 T d i = some o → ∃ o0,get2 S d i = some o0 ∧ wkO o0 o
theorem wk.refl (a : List AV) : wk a a:=⟨rfl,fun j c h=>.inr h⟩
theorem RelO.wk {Pr : Prot} {φ : Fi2} {w : World} {o o' : AObj} {e : Ent} (h : RelO Pr φ w o e) (hk : wkO o o') : RelO Pr φ w o' e:=by
 cases o' with
 | dead=>trivial
 | cells b u =>
  cases o with
  | cells a t =>
   obtain ⟨rfl,hl,hw⟩:=hk
   obtain ⟨h0,g,xs,h1,h2,h3,h4,h5⟩:=h
   refine ⟨h0,g,xs,h1,h2,by rw [← hl]; exact h3,fun j c x hc hx=>?_,h5⟩
   rcases hw j c hc with rfl | hc'
   ·exact .any x
   ·exact h4 j c x hc' hx
  | dead=>cases hk
  | tok=>cases hk
  | row=>cases hk
  | map=>cases hk
  | raw=>cases hk
 | row E k m b =>
  cases o with
  | row E' k' m' a =>
   obtain ⟨⟨rfl,rfl,rfl⟩,hl,hw⟩:=hk
   obtain ⟨h0,h1,h2,h3,h5,h4⟩:=h
   refine ⟨h0,h1,h2,h3,by rw [← hl]; exact h5,h4.imp id ?_⟩
   rintro ⟨g,xs,a1,b1,c1,d1,e1,f1,q,i⟩
   refine ⟨g,xs,a1,b1,c1,d1,e1,f1,fun j c x hc hx=>?_,i⟩
   rcases hw j c hc with rfl | hc'
   ·exact .any x
   ·exact q j c x hc' hx
  | dead=>cases hk
  | tok=>cases hk
  | cells=>cases hk
  | map=>cases hk
  | raw=>cases hk
 | tok E k m =>
  cases o with
  | tok=>cases hk; exact h
  | row=>cases hk
  | dead=>cases hk
  | cells=>cases hk
  | map=>cases hk
  | raw=>cases hk
 | map es =>
  cases o with
  | map=>cases hk; exact h
  | dead=>cases hk
  | cells=>cases hk
  | row=>cases hk
  | tok=>cases hk
  | raw=>cases hk
 | raw l ob cs xs =>
  cases o with
  | raw=>cases hk; exact h
  | dead=>cases hk
  | cells=>cases hk
  | row=>cases hk
  | tok=>cases hk
  | map=>cases hk
theorem rel_wk {Pr : Prot} {φ : Fi2} {S T : ASt} {w : World} (h : Rel Pr φ S w) (hk : wkS S T) : Rel Pr φ T w :=
 ⟨fun d i o ho=>by
  obtain ⟨o0,h0,h1⟩:=hk.2 d i o ho
  obtain ⟨e,he,hr⟩:=h.obj d i o0 h0
  exact ⟨e,he,hr.wk h1⟩,h.dis,h.lt,h.pr,h.tb,h.shape.trans hk.1⟩
def wkR : List AV → List AV → Prop
 | [],[]=>True
 | a :: as,b :: bs=>(b = .any ∨ a = b) ∧ wkR as bs
 | _,_=>False
theorem wkR_ok : ∀ {a b : List AV},wkR a b → wk a b
 | [],[],_=>⟨rfl,fun j c h=>by simp at h⟩
 | a :: as,b :: bs,⟨h1,h2⟩=>by
  obtain ⟨h3,h4⟩:=wkR_ok h2
  refine ⟨by simp [h3],fun j c hc=>?_⟩
  cases j with
  | zero =>
   simp at hc; subst hc; rcases h1 with h | h
   ·exact .inl h
   ·exact .inr (by simp [h])
  | succ j=>simpa using h4 j c (by simpa using hc)
 | [],_ :: _,h=>h.elim
 | _ :: _,[],h=>h.elim
def wkL : List AObj → List AObj → Prop
 | [],[]=>True
 | .cells a t :: as,.cells b u :: bs=>(t = u ∧ wkR a b) ∧ wkL as bs
 | _ :: as,.dead :: bs=>wkL as bs
 | .tok e k n :: as,.tok e' k' n' :: bs=>(e = e' ∧ k = k' ∧ n = n') ∧ wkL as bs
 | .map a :: as,.map b :: bs=>a = b ∧ wkL as bs
 | .row E k n a :: as,.row E' k' n' b :: bs=>((E = E' ∧ k = k' ∧ n = n') ∧ wkR a b) ∧ wkL as bs
 | _,_=>False
def wkT (S T : ASt) : Prop :=
 match S,T with
 | L :: R,L' :: R'=>wkL L L' ∧ R = R'
 | _,_=>False
theorem wkO_refl (o : AObj) : wkO o o:=by
 cases o with
 | dead=>trivial
 | cells cs t=>exact ⟨rfl,wk.refl cs⟩
 | tok=>rfl
 | row=>exact ⟨⟨rfl,rfl,rfl⟩,wk.refl _⟩
 | map=>rfl
 | raw=>rfl
theorem wkL_ok {a b : List AObj} (h : wkL a b) : a.length = b.length ∧ ∀ (j : Nat) (o : AObj),b[j]? = some o → ∃ o0,a[j]? = some o0 ∧ wkO o0 o:=by
 induction a generalizing b with
 | nil =>
  cases b with
  | nil=>exact ⟨rfl,fun j o h=>by simp at h⟩
  | cons b bs=>exact h.elim
 | cons a as ih =>
  cases b with
  | nil=>cases a <;> exact h.elim
  | cons b bs =>
   have key : wkO a b ∧ wkL as bs:=by
    cases a <;> cases b <;> first | exact h.elim | skip
    all_goals first
     | exact ⟨trivial,h⟩
     | exact ⟨⟨h.1.1,wkR_ok h.1.2⟩,h.2⟩
     | (obtain ⟨⟨rfl,rfl,rfl⟩,h2⟩:=h; exact ⟨rfl,h2⟩)
     | (obtain ⟨rfl,h2⟩:=h; exact ⟨rfl,h2⟩)
   obtain ⟨i1,i2⟩:=ih key.2
   refine ⟨by simp [i1],fun j o ho=>?_⟩
   cases j with
   | zero=>simp at ho; subst ho; exact ⟨a,rfl,key.1⟩
   | succ j=>simpa using i2 j o (by simpa using ho)
theorem wkT_ok {S T : ASt} (h : wkT S T) : wkS S T:=by
 cases S with
 | nil=>cases T <;> exact h.elim
 | cons L R =>
  cases T with
  | nil=>exact h.elim
  | cons L' R' =>
   obtain ⟨h1,rfl⟩:=h
   obtain ⟨h2,h3⟩:=wkL_ok h1
   refine ⟨by simp [h2],fun d i o ho=>?_⟩
   cases d with
   | zero=>exact h3 i o ho
   | succ d=>exact ⟨o,ho,wkO_refl o⟩
end Go.Proofs.YtfiohepfohhibaaDoor
namespace Go.Proofs.YtfiohepfohhibaaDoor
open Go.RowKit
def pureRun {α : Type} (P : Program) : Sem α → Option α
 | .pure a=>some a
 | .program k=>pureRun P (k P)
 | .mark _ k=>pureRun P k
 | _=>none
theorem pureRun_run {α : Type} {P : Program} {s : Sem α} {a : α} (h : pureRun P s = some a) (w : World) : s.run P w = .ok a w:=by
 induction s with
 | pure b=>simp [pureRun] at h; subst h; rfl
 | program k ih=>exact ih P (by simpa [pureRun] using h)
 | mark m k ih=>exact ih (by simpa [pureRun] using h)
 | _=>simp [pureRun] at h
def atomAV : AV → Option Value
 | .p (.v x)=>some x
 | _=>none
def atomsAV : List AV → Option (List Value)
 | []=>some []
 | c :: cs=>match atomAV c,atomsAV cs with
  | some x,some xs=>some (x :: xs)
  | _,_=>none
def atomV : AV → Option Value
 | .p (.v x)=>some x
 | .agg cs=>(atomsAV cs).map fun xs=>.agg xs.toArray
 | _=>none
def valB (x : Value) : Option AV :=
 if atom x then some (.p (.v x)) else
 match x with
 | .agg ⟨l⟩=>if l.all atom then some (.agg (l.map fun y=>.p (.v y))) else none
 | _=>none
def valBs : List Value → Option (List AV)
 | []=>some []
 | x :: l=>match valB x,valBs l with
  | some a,some as=>some (a :: as)
  | _,_=>none
def valA (x : Value) : Option AV :=
 if atom x then some (.p (.v x)) else
 match x with
 | .agg ⟨l⟩=>if l.all atom then some (.agg (l.map fun y=>.p (.v y))) else none
 | .tuple ⟨[]⟩=>some .un
 | .tuple ⟨l⟩=>if l.all atom then some (.tup (l.map fun y=>.p (.v y))) else (valBs l).map .tup
 | _=>none
section
variable {Pr : Prot} {φ : Fi2}
theorem atomAV_ok {c : AV} {x y : Value} (h : RA Pr φ c x) (hy : atomAV c = some y) : x = y:=by
 unfold atomAV at hy
 split at hy
 ·cases hy
  cases h with
  | p h=>cases h with
   | v=>rfl
 ·cases hy
theorem atomsAV_ok : ∀ (cs : List AV) (ys : List Value),atomsAV cs = some ys → ys.length = cs.length ∧ ∀ (j : Nat) (c : AV) (x : Value),cs[j]? = some c → RA Pr φ c x → ys[j]? = some x
 | [],ys,h=>by simp [atomsAV] at h; subst h; exact ⟨rfl,fun j c x h=>by simp at h⟩
 | c :: cs,ys,h=>by
  simp only [atomsAV] at h
  split at h
  ·rename_i x xs h1 h2
   cases h
   obtain ⟨h3,h4⟩:=atomsAV_ok cs xs h2
   refine ⟨by simp [h3],fun j c' x' hc hr=>?_⟩
   cases j with
   | zero=>simp at hc; subst hc; simp; exact (atomAV_ok hr h1).symm
   | succ j=>simp at hc; simpa using h4 j c' x' hc hr
  ·cases h
theorem atomV_ok {c : AV} {x y : Value} (h : RA Pr φ c x) (hy : atomV c = some y) : x = y:=by
 unfold atomV at hy
 split at hy
 ·cases hy
  cases h with
  | p h=>cases h with
   | v=>rfl
 ·rename_i cs
  obtain ⟨ys,h1,rfl⟩:=Option.map_eq_some_iff.1 hy
  cases h with
  | @agg _ xs hl hc =>
   obtain ⟨h3,h4⟩:=atomsAV_ok (Pr:=Pr) (φ:=φ) cs ys h1
   congr 1
   apply Array.ext_getElem?
   intro j
   rcases Nat.lt_or_ge j xs.size with hj | hj
   ·have h5 : cs[j]? = some cs[j]:=List.getElem?_eq_getElem (by omega)
    have h6 : xs[j]? = some xs[j]:=Array.getElem?_eq_getElem hj
    rw [h6,List.getElem?_toArray]
    exact (h4 j _ _ h5 (hc j _ _ h5 h6)).symm
   ·rw [Array.getElem?_eq_none hj,List.getElem?_toArray,List.getElem?_eq_none (by omega)]
 ·cases hy
theorem ra_atoms {l : List Value} (h : l.all atom = true) : ∀ (j : Nat) (c : AV) (x : Value),(l.map fun y=>AV.p (.v y))[j]? = some c → (⟨l⟩ : Array Value)[j]? = some x → RA Pr φ c x:=fun j c x hc hx=>by
 rw [List.getElem?_map] at hc
 obtain ⟨y,hy,rfl⟩:=Option.map_eq_some_iff.1 hc
 rw [List.getElem?_toArray,hy] at hx
 cases hx
 exact .p (.v (List.all_eq_true.1 h _ (List.mem_of_getElem? hy)))
theorem valB_ok {x : Value} {v : AV} (h : valB x = some v) : RA Pr φ v x:=by
 unfold valB at h
 split at h
 ·rename_i ha; cases h; exact .p (.v ha)
 ·split at h
  ·split at h
   ·rename_i l ha
    cases h
    exact .agg (by simp) (ra_atoms ha)
   ·cases h
  ·cases h
theorem valBs_ok : ∀ (l : List Value) (vs : List AV),valBs l = some vs → vs.length = l.length ∧ ∀ (j : Nat) (c : AV) (x : Value),vs[j]? = some c → l[j]? = some x → RA Pr φ c x
 | [],vs,h=>by simp [valBs] at h; subst h; exact ⟨rfl,fun j c x hc=>by simp at hc⟩
 | y :: l,vs,h=>by
  rw [valBs] at h
  split at h
  ·rename_i a as h1 h2
   cases h
   obtain ⟨k1,k2⟩:=valBs_ok l as h2
   refine ⟨by simp [k1],fun j c x hc hx=>?_⟩
   cases j with
   | zero=>simp at hc hx; subst hc; subst hx; exact valB_ok h1
   | succ j=>exact k2 j c x (by simpa using hc) (by simpa using hx)
  ·cases h
theorem valA_ok {x : Value} {v : AV} (h : valA x = some v) : RA Pr φ v x:=by
 unfold valA at h
 split at h
 ·rename_i ha; cases h; exact .p (.v ha)
 ·split at h
  ·split at h
   ·rename_i l ha
    cases h
    exact .agg (by simp) (ra_atoms ha)
   ·cases h
  ·cases h; exact .un
  ·split at h
   ·rename_i l _ ha
    cases h
    exact .tup (by simp) (ra_atoms ha)
   ·obtain ⟨vs,h1,rfl⟩:=Option.map_eq_some_iff.1 h
    obtain ⟨k1,k2⟩:=valBs_ok (Pr:=Pr) (φ:=φ) _ vs h1
    exact .tup (by simpa using k1) fun j c x hc hx=>k2 j c x hc (by simpa using hx)
  ·cases h
def evA (fr : List AV) : Operand → AV
 | .tmp t=>fr.getD t .un
 | .const v=>(valA v).getD .any
 | .global g=>.any
 | .func f=>.fn (.func f) [] []
structure RF (Pr : Prot) (φ : Fi2) (fr : List AV) (a : Act) : Prop where
 len : fr.length = a.tmps.size
 at_ : ∀ (t : Nat) (c : AV) (x : Value),fr[t]? = some c → a.tmps[t]? = some x → RA Pr φ c x
theorem RF.mono {Pr' : Prot} {φ' : Fi2} (hl : Pr.le Pr') (hf : Fle φ φ') {fr : List AV} {a : Act} (h : RF Pr φ fr a) : RF Pr' φ' fr a:=⟨h.len,fun t c x a b=>(h.at_ t c x a b).mono hl hf⟩
theorem RF.ev {fr : List AV} {a : Act} (h : RF Pr φ fr a) (x : Operand) : RA Pr φ (evA fr x) (a.eval x):=by
 cases x with
 | tmp t =>
  simp only [evA,Act.eval]
  rcases Nat.lt_or_ge t fr.length with ht | ht
  ·have h1 : fr[t]? = some fr[t]:=List.getElem?_eq_getElem ht
   have ht' : t < a.tmps.size:=by rw [← h.len]; exact ht
   have h2 : a.tmps[t]? = some a.tmps[t]:=Array.getElem?_eq_getElem ht'
   rw [List.getD,h1,Array.getD_eq_getD_getElem?,h2]
   exact h.at_ t _ _ h1 h2
  ·have ht2 : a.tmps.size ≤ t:=by rw [← h.len]; exact ht
   rw [List.getD,List.getElem?_eq_none ht,Array.getD_eq_getD_getElem?,Array.getElem?_eq_none ht2]
   exact .un
 | const v =>
  simp only [evA,Act.eval]
  cases hv : valA v with
  | none=>exact .any _
  | some c=>exact valA_ok hv
 | global g=>exact .any _
 | func f=>exact .fn rfl rfl (fun j c x h=>by simp at h) (fun j c x h=>by simp at h)
def putA (fr : List AV) (dst : Option Nat) (v : AV) : List AV :=
 match dst with
 | some d=>fr.set d v
 | none=>fr
theorem RF.put {fr : List AV} {a : Act} (h : RF Pr φ fr a) (dst : Option Nat) {v : AV} {x : Value} (hv : RA Pr φ v x) : RF Pr φ (putA fr dst v) (a.put dst x):=by
 cases dst with
 | none=>exact h
 | some d =>
  refine ⟨by simp [putA,Act.put,h.len],fun t c y hc hy=>?_⟩
  simp only [putA,Act.put] at hc hy
  by_cases hd : t = d
  ·subst hd
   rcases Nat.lt_or_ge t fr.length with ht | ht
   ·rw [List.getElem?_set_self ht] at hc
    rw [Array.getElem?_setIfInBounds_self_of_lt (by have:=h.len; omega)] at hy
    cases hc; cases hy; exact hv
   ·rw [List.getElem?_eq_none (by simpa using ht)] at hc; cases hc
  ·rw [List.getElem?_set_ne (by omega)] at hc
   rw [Array.getElem?_setIfInBounds_ne (by omega)] at hy
   exact h.at_ t c y hc hy
theorem RF.wk {fr fr' : List AV} {a : Act} (h : RF Pr φ fr a) (hk : wk fr fr') : RF Pr φ fr' a :=
 ⟨hk.1 ▸ h.len,fun t c x hc hx=>by
  rcases hk.2 t c hc with rfl | h'
  ·exact .any x
  ·exact h.at_ t c x h' hx⟩
end
def noSel : Op → Bool
 | .select ..=>false
 | _=>true
def allAtoms (fr : List AV) : List Operand → Bool
 | []=>true
 | x :: xs=>(atomV (evA fr x)).isSome && allAtoms fr xs
theorem allAtoms_ok {fr : List AV} : ∀ {xs : List Operand},allAtoms fr xs = true → ∀ x ∈ xs,(atomV (evA fr x)).isSome = true
 | [],_,x,hx=>by cases hx
 | y :: ys,h,x,hx=>by
  simp only [allAtoms,Bool.and_eq_true] at h
  cases hx with
  | head=>exact h.1
  | tail _ hx=>exact allAtoms_ok h.2 x hx
def genP (P : Program) (o : Oper) (fr : List AV) : Option AV :=
 if noSel o.op && allAtoms fr o.op.operands.toList then
  match pureRun P (execOp (fun x=>(atomV (evA fr x)).getD undef) o) with
  | some (.value x)=>valA x
  | _=>none
 else none
def Yl (P : Program) (Pr : Prot) (φ : Fi2) (o : Oper) (a : Act) (v : AV) : Prop:=∃ x,RA Pr φ v x ∧ ∀ w,(execOp a.eval o).run P w = .ok (.value x) w
theorem genP_ok {P : Program} {Pr : Prot} {φ : Fi2} {o : Oper} {fr : List AV} {a : Act} {v : AV} (h : RF Pr φ fr a) (hg : genP P o fr = some v) : Yl P Pr φ o a v:=by
 unfold genP at hg
 split at hg
 ·rename_i hc
  simp only [Bool.and_eq_true] at hc
  have he : execOp a.eval o = execOp (fun x=>(atomV (evA fr x)).getD undef) o:=by
   refine execOp_congr o (fun cs b hs=>by rw [hs] at hc; simp [noSel] at hc) fun x hx=>?_
   have h1:=allAtoms_ok hc.2 x (by simpa using hx)
   obtain ⟨y,hy⟩:=Option.isSome_iff_exists.1 h1
   rw [hy,Option.getD_some]
   exact atomV_ok (h.ev x) hy
  split at hg
  ·rename_i x hx
   exact ⟨x,valA_ok hg,fun w=>by rw [he]; exact pureRun_run hx w⟩
  ·cases hg
 ·cases hg
end Go.Proofs.YtfiohepfohhibaaDoor
namespace Go.Proofs.YtfiohepfohhibaaDoor
open Go.RowKit
theorem addN (b o n : Nat) : (⟨b,o,none⟩ : Addr).add n = ⟨b,o + n,none⟩:=by
 unfold Addr.add; split <;> simp_all
theorem run_cellsOf {P : Program} {t k : Nat} (h : P.cellsOf t = k) (hk : k ≠ 0) (w : World) : (sizeOf t).run P w = .ok k w:=by
 unfold Program.cellsOf at h
 cases hi : P.info? t with
 | none=>rw [hi] at h; exact absurd h.symm hk
 | some i =>
  rw [hi] at h
  have : i.size = k:=by simpa using h
  simp [sizeOf,typeInfo,hi,this]
theorem run_cellsOf' {P : Program} {t : Nat} (h : (P.info? t).isSome = true) (w : World) : (sizeOf t).run P w = .ok (P.cellsOf t) w:=by
 obtain ⟨i,hi⟩:=Option.isSome_iff_exists.1 h
 simp [sizeOf,typeInfo,Program.cellsOf,hi]
def sEq (a b : ByteArray) : Bool:=a.toList == b.toList
@[simp] theorem sEq_self (a : ByteArray) : sEq a a = true:=by simp [sEq]
def binV (op : BinOp) (a b : Value) : Option Value :=
 match a,b with
 | .int k x,.int k' y=>if k = k' then
   match op with
   | .add=>some (.int k (k.wrap (x + y)))
   | .sub=>some (.int k (k.wrap (x - y)))
   | .mul=>some (.int k (k.wrap (x * y)))
   | .eql=>some (.bool (x == y))
   | .neq=>some (.bool (x != y))
   | .lss=>some (.bool (decide (x < y)))
   | .leq=>some (.bool (decide (x ≤ y)))
   | .gtr=>some (.bool (decide (x > y)))
   | .geq=>some (.bool (decide (x ≥ y)))
   | _=>none
  else none
 | .string x,.string y =>
  match op with
  | .add=>if x.size + y.size ≤ maxLen then some (.string (x ++ y)) else none
  | .eql=>some (.bool (sEq x y))
  | .neq=>some (.bool !(sEq x y))
  | _=>none
 | _,_=>none
theorem binV_ok {P : Program} {op : BinOp} {a b v : Value} (h : binV op a b = some v) (T : TypeId) (x y : Operand) (w : World) : (do eqGuard op T x y a b; binOp op T a b : Sem Value).run P w = .ok v w:=by
 unfold binV at h
 split at h
 ·split at h
  ·rename_i hk
   subst hk
   split at h <;> first
    | (cases h; simp [eqGuard,binOp,Op.intArith,Op.intCmp]; done)
    | (cases h; simp [eqGuard,binOp,Op.intArith,Op.intCmp,Sem.run]; rfl)
    | cases h
  ·cases h
 ·rename_i s t
  split at h
  ·split at h
   ·rename_i hl
    cases h
    unfold maxLen at hl
    have hm : IntKind.i64.max = 9223372036854775807:=by decide
    simp [eqGuard,binOp,Op.stringOp]
    omega
   ·cases h
  ·cases h; simp [eqGuard,binOp,Op.stringOp,sEq]
  ·cases h; simp [eqGuard,binOp,Op.stringOp,sEq]
  ·cases h
 ·cases h
def fieldA (P : Program) (s : TypeId) (v : AV) (f : Nat) : Option AV :=
 match P.underlying s with
 | some (.struct fields) =>
  match fields[f]? with
  | some fd=>if P.cellsOf fd.type = 0 then none else
   match v with
   | .ptr d i o=>some (.ptr d i (o + fd.offset))
   | .rptr d i n o=>some (.rptr d i n (o + fd.offset))
   | .rp cs=>some (.rp (cs.drop fd.offset))
   | .bx cs=>some (.bx (cs.drop fd.offset))
   | _=>none
  | none=>none
 | _=>none
def indexA (P : Program) (t : TypeId) (v ix : AV) : Option AV :=
 match P.underlying t,v,ix with
 | some (.slice e),.p (.sl k rows),.p (.v (.int _ n))=>if P.cellsOf e = k ∧ k ≠ 0 ∧ 0 ≤ n then (rows[n.toNat]?).map .rp else none
 | some (.slice e),.osl k rows _ _,.p (.v (.int _ n))=>if P.cellsOf e = k ∧ k ≠ 0 ∧ 0 ≤ n then (rows[n.toNat]?).map .rp else none
 | some (.slice e),.asl d i m k,.p (.v (.int _ n))=>if P.cellsOf e = k ∧ k ≠ 0 ∧ 0 ≤ n ∧ n < m then some (.ptr d i (n.toNat * k)) else none
 | some (.slice e),.rsl d i m k,.p (.v (.int _ n))=>if P.cellsOf e = k ∧ k ≠ 0 ∧ 0 ≤ n ∧ n < m then some (.rptr d i m (n.toNat * k)) else none
 | some (.array len e),.ptr d i o,.p (.v (.int _ n))=>if 0 ≤ n ∧ n < len ∧ P.cellsOf e ≠ 0 then some (.ptr d i (o + n.toNat * P.cellsOf e)) else none
 | _,_,_=>none
section
variable {P : Program} {Pr : Prot} {φ : Fi2}
theorem RA.drop_bx {cells : List AV} {b off k : Nat} (h : RA Pr φ (.bx cells) (.pointer (some ⟨b,off,none⟩))) : RA Pr φ (.bx (cells.drop k)) (.pointer (some ⟨b,off + k,none⟩)):=by
 cases h with
 | bx vs h1 h2 =>
  refine .bx (fun j=>vs (k + j)) (fun j p hp=>?_) (fun j p hp=>?_)
  ·rw [List.getElem?_drop] at hp
   rw [Nat.add_assoc]; exact h1 _ p hp
  ·rw [List.getElem?_drop] at hp
   exact h2 _ p hp
theorem RA.drop_rp {cells : List PV} {b off k : Nat} (h : RA Pr φ (.rp cells) (.pointer (some ⟨b,off,none⟩))) : RA Pr φ (.rp (cells.drop k)) (.pointer (some ⟨b,off + k,none⟩)):=by
 cases h with
 | rp vs h1 h2 =>
  refine .rp (fun j=>vs (k + j)) (fun j p hp=>?_) (fun j p hp=>?_)
  ·rw [List.getElem?_drop] at hp
   have:=h1 _ _ hp
   rw [Nat.add_assoc]; exact this
  ·rw [List.getElem?_drop] at hp
   exact h2 _ _ hp
theorem fieldA_ok {s : TypeId} {v v' : AV} {f : Nat} {x : Value} (h : RA Pr φ v x) (hf : fieldA P s v f = some v') : ∃ y,RA Pr φ v' y ∧ ∀ w,(Instr.fieldAt s x f).run P w = .ok y w:=by
 unfold fieldA at hf
 split at hf
 ·rename_i fields hs
  split at hf
  ·rename_i fd hfd
   split at hf
   ·cases hf
   ·rename_i hk
    have key : ∀ b o w,(Instr.fieldAt s (.pointer (some ⟨b,o,none⟩)) f).run P w = .ok (.pointer (some ⟨b,o + fd.offset,none⟩)) w:=fun b o w=>by
     simp [Instr.fieldAt,run_underlying hs,hfd,Instr.sureAddr,fieldPlace,run_cellsOf rfl hk,hk,addN]
    split at hf
    ·cases hf
     cases h with
     | ptr h1 h2 h3=>exact ⟨_,.ptr h1 h2 h3,fun w=>key _ _ w⟩
    ·cases hf
     cases h with
     | rptr h1 h2 h3 h4=>exact ⟨_,.rptr h1 h2 h3 h4,fun w=>key _ _ w⟩
    ·cases hf
     cases h with
     | rp vs h1 h2=>exact ⟨_,RA.drop_rp (.rp vs h1 h2),fun w=>key _ _ w⟩
    ·cases hf
     cases h with
     | bx vs h1 h2=>exact ⟨_,RA.drop_bx (.bx vs h1 h2),fun w=>key _ _ w⟩
    ·cases hf
  ·cases hf
 ·cases hf
theorem RP.row {k : Nat} {rows : List (List PV)} {x : Value} {n : Nat} {row : List PV} (h : RP Pr (.sl k rows) x) (hr : rows[n]? = some row) : ∃ b off cap,x = .slice (some ⟨b,off,none⟩) rows.length cap ∧ RA Pr φ (.rp row) (.pointer (some ⟨b,off + n * k,none⟩)):=by
 cases h with
 | slemp=>simp at hr
 | sl vs h1 h2 h3 h4 h5=>exact ⟨_,_,_,rfl,.rp (vs n) (fun j p hp=>h4 n row j p hr hp) (fun j p hp=>h5 n row j p hr hp)⟩
theorem indexA_ok {t : TypeId} {v v' ix : AV} {x i : Value} (h : RA Pr φ v x) (hi : RA Pr φ ix i) (hf : indexA P t v ix = some v') : ∃ y,RA Pr φ v' y ∧ ∀ w,(Instr.indexAt t x i).run P w = .ok y w:=by
 have key : ∀ (e : TypeId) (k : Nat) (rows : List (List PV)) (kk : IntKind) (n : Int) (row : List PV),P.underlying t = some (.slice e) → RP Pr (.sl k rows) x → P.cellsOf e = k → k ≠ 0 → 0 ≤ n → rows[n.toNat]? = some row → i = .int kk n → ∃ y,RA Pr φ (.rp row) y ∧ ∀ w,(Instr.indexAt t x i).run P w = .ok y w:=by
  intro e k rows kk n row ht hx hk hk0 hn hrow hi
  subst hi
  obtain ⟨b,off,cap,rfl,hr⟩:=RP.row (φ:=φ) hx hrow
  have hlt : n < (rows.length : Int):=by have:=(List.getElem?_eq_some_iff.1 hrow).1; omega
  exact ⟨_,hr,fun w=>by simp [Instr.indexAt,asIntOf,run_underlying ht,hn,hlt,run_cellsOf hk hk0,addN]⟩
 unfold indexA at hf
 split at hf
 ·rename_i e k rows kk n ht
  split at hf
  ·rename_i hc
   obtain ⟨row,hrow,rfl⟩:=Option.map_eq_some_iff.1 hf
   cases h with
   | p h=>exact key e k rows kk n row ht h hc.1 hc.2.1 hc.2.2 hrow (atomAV_ok hi rfl)
  ·cases hf
 ·rename_i e k rows _ _ kk n ht
  split at hf
  ·rename_i hc
   obtain ⟨row,hrow,rfl⟩:=Option.map_eq_some_iff.1 hf
   exact key e k rows kk n row ht h.sl hc.1 hc.2.1 hc.2.2 hrow (atomAV_ok hi rfl)
  ·cases hf
 ·rename_i e d j m k kk n ht
  split at hf
  ·rename_i hc
   cases hf
   have:=atomAV_ok hi rfl
   subst this
   cases h with
   | asl h1 h2 h3 h4=>exact ⟨_,.ptr h1 h2 h3,fun w=>by simp [Instr.indexAt,asIntOf,run_underlying ht,hc.2.2.1,hc.2.2.2,run_cellsOf hc.1 hc.2.1,addN]⟩
  ·cases hf
 ·rename_i e d j m k kk n ht
  split at hf
  ·rename_i hc
   cases hf
   have:=atomAV_ok hi rfl
   subst this
   generalize hkk : k = k' at h
   cases h with
   | rnil h1 h2 h3=>omega
   | rsl h1 h2 h3 h4 h5 h6 h7 =>
    subst hkk
    exact ⟨_,.rptr h1 h2 h4 (fun h=>(h5 h).1),fun w=>by simp [Instr.indexAt,asIntOf,run_underlying ht,hc.2.2.1,hc.2.2.2,run_cellsOf hc.1 hc.2.1,addN]⟩
  ·cases hf
 ·rename_i len e d j o kk n ht
  split at hf
  ·rename_i hc
   cases hf
   have:=atomAV_ok hi rfl
   subst this
   cases h with
   | ptr h1 h2 h3=>exact ⟨_,.ptr h1 h2 h3,fun w=>by simp [Instr.indexAt,asIntOf,run_underlying ht,Instr.sureAddr,hc.1,hc.2.1,run_cellsOf rfl hc.2.2,addN]⟩
  ·cases hf
 ·cases hf
def partV (P : Program) (t : TypeId) (cs : List AV) (off : Nat) : Option AV :=
 match P.underlying t with
 | some (.struct _)=>if P.cellsOf t ≠ 0 ∧ off + P.cellsOf t ≤ cs.length then some (.agg ((cs.drop off).take (P.cellsOf t))) else none
 | some (.array _ _)=>if P.cellsOf t ≠ 0 ∧ off + P.cellsOf t ≤ cs.length then some (.agg ((cs.drop off).take (P.cellsOf t))) else none
 | some _=>cs[off]?
 | none=>none
theorem ra_part {cs : List AV} {xs : Array Value} (hl : cs.length = xs.size) (hc : ∀ (j : Nat) (c : AV) (x : Value),cs[j]? = some c → xs[j]? = some x → RA Pr φ c x) {off n : Nat} (h : off + n ≤ cs.length) : RA Pr φ (.agg ((cs.drop off).take n)) (.agg (xs.extract off (off + n))):=by
 refine .agg (by simp; omega) fun j c x a b=>?_
 rw [List.getElem?_take] at a
 split at a
 ·rename_i hj
  rw [List.getElem?_drop] at a
  rw [Array.getElem?_extract] at b
  split at b
  ·exact hc _ _ _ a b
  ·cases b
 ·cases a
theorem partV_ok {t : TypeId} {cs : List AV} {xs : Array Value} {off : Nat} {v : AV} (hl : cs.length = xs.size) (hc : ∀ (j : Nat) (c : AV) (x : Value),cs[j]? = some c → xs[j]? = some x → RA Pr φ c x) (h : partV P t cs off = some v) : ∃ y,RA Pr φ v y ∧ ∀ w,(part t xs off).run P w = .ok y w:=by
 unfold partV at h
 split at h
 ·rename_i ht
  split at h
  ·rename_i hn
   cases h
   exact ⟨_,ra_part hl hc hn.2,fun w=>by simp [part,isAgg,run_underlying ht,run_cellsOf rfl hn.1]⟩
  ·cases h
 ·rename_i ht
  split at h
  ·rename_i hn
   cases h
   exact ⟨_,ra_part hl hc hn.2,fun w=>by simp [part,isAgg,run_underlying ht,run_cellsOf rfl hn.1]⟩
  ·cases h
 ·rename_i d h1 h2 ht
  have hlt : off < xs.size:=by have:=(List.getElem?_eq_some_iff.1 h).1; omega
  have hx : xs[off]? = some xs[off]:=Array.getElem?_eq_getElem hlt
  refine ⟨xs[off],hc off v _ h hx,fun w=>?_⟩
  have : (isAgg t).run P w = .ok false w:=by
   cases d <;> first | (simp [isAgg,run_underlying ht]; done) | exact absurd rfl (h1 _) | exact absurd rfl (h2 _ _)
  simp [part,this,hx]
 ·cases h
end
end Go.Proofs.YtfiohepfohhibaaDoor
namespace Go.Proofs.YtfiohepfohhibaaDoor
open Go.RowKit
def oneA : AV → Bool
 | .p _=>true
 | .ptr _ _ _=>true
 | .rp _=>true
 | .bx _=>true
 | .osl _ _ _ _=>true
 | .fn _ _ _=>true
 | .bl=>true
 | .mp _ _=>true
 | .asl _ _ _ _=>true
 | .rsl _ _ _ _=>true
 | .rptr _ _ _ _=>true
 | _=>false
def cellsAV : AV → Option (List AV)
 | .agg cs=>if cs.all oneA then some cs else none
 | .p q=>some [.p q]
 | .ptr d i o=>some [.ptr d i o]
 | .rp cs=>some [.rp cs]
 | .bx cs=>some [.bx cs]
 | .osl k rows d i=>some [.osl k rows d i]
 | .fn f as bs=>some [.fn f as bs]
 | .bl=>some [.bl]
 | .mp d i=>some [.mp d i]
 | .asl d i n m=>some [.asl d i n m]
 | .rsl d i n m=>some [.rsl d i n m]
 | .rptr d i n o=>some [.rptr d i n o]
 | _=>none
def RL (Pr : Prot) (φ : Fi2) (cs : List AV) (xs : Array Value) : Prop:=cs.length = xs.size ∧ ∀ (j : Nat) (c : AV) (x : Value),cs[j]? = some c → xs[j]? = some x → RA Pr φ c x
section
variable {P : Program} {Pr : Prot} {φ : Fi2}
theorem RA.one {v : AV} {x : Value} (h : RA Pr φ v x) (hv : oneA v = true) : x.oneCell' = true:=by
 cases h with
 | p h=>exact h.one
 | ptr=>rfl
 | rp=>rfl
 | bx=>rfl
 | onil=>rfl
 | osl=>rfl
 | fn=>rfl
 | bl=>rfl
 | mp=>rfl
 | asl=>rfl
 | rnil=>rfl
 | rsl=>rfl
 | rptr=>rfl
 | _=>simp [oneA] at hv
theorem rl_one {v : AV} {x : Value} (h : RA Pr φ v x) (hv : oneA v = true) : x.cells = #[x]:=by
 have:=h.one hv
 cases x <;> first | rfl | simp [Value.oneCell'] at this
theorem RL.single {v : AV} {x : Value} (h : RA Pr φ v x) : RL Pr φ [v] #[x]:=⟨rfl,fun j c y hc hy=>by
 cases j with
 | zero=>simp at hc hy; subst hc hy; exact h
 | succ j=>simp at hc⟩
theorem cellsAV_ok {v : AV} {x : Value} {cs : List AV} (h : RA Pr φ v x) (hc : cellsAV v = some cs) : RL Pr φ cs x.cells ∧ cs.all oneA = true:=by
 have key : oneA v = true → cs = [v] → RL Pr φ cs x.cells ∧ cs.all oneA = true:=fun ho he=>by
  subst he
  rw [rl_one h ho]
  exact ⟨.single h,by simp [ho]⟩
 cases v with
 | agg c =>
  simp only [cellsAV] at hc
  split at hc
  ·rename_i ha
   cases hc
   cases h with
   | agg h1 h2=>exact ⟨⟨h1,h2⟩,ha⟩
  ·cases hc
 | p q=>simp only [cellsAV,Option.some.injEq] at hc; exact key rfl hc.symm
 | ptr d i o=>simp only [cellsAV,Option.some.injEq] at hc; exact key rfl hc.symm
 | rp c=>simp only [cellsAV,Option.some.injEq] at hc; exact key rfl hc.symm
 | bx c=>simp only [cellsAV,Option.some.injEq] at hc; exact key rfl hc.symm
 | osl k r d i=>simp only [cellsAV,Option.some.injEq] at hc; exact key rfl hc.symm
 | fn f a b=>simp only [cellsAV,Option.some.injEq] at hc; exact key rfl hc.symm
 | bl=>simp only [cellsAV,Option.some.injEq] at hc; exact key rfl hc.symm
 | mp d i=>simp only [cellsAV,Option.some.injEq] at hc; exact key rfl hc.symm
 | asl d i n m=>simp only [cellsAV,Option.some.injEq] at hc; exact key rfl hc.symm
 | rsl d i n m=>simp only [cellsAV,Option.some.injEq] at hc; exact key rfl hc.symm
 | rptr d i n o=>simp only [cellsAV,Option.some.injEq] at hc; exact key rfl hc.symm
 | _=>simp [cellsAV] at hc
def setAll (cs : List AV) (off : Nat) : List AV → List AV
 | []=>cs
 | v :: vs=>setAll (cs.set off v) (off + 1) vs
theorem setAll_len : ∀ (vs cs : List AV) (off : Nat),(setAll cs off vs).length = cs.length
 | [],cs,off=>rfl
 | v :: vs,cs,off=>by rw [setAll,setAll_len vs]; simp
theorem RL.set {cs : List AV} {xs : Array Value} (h : RL Pr φ cs xs) (o : Nat) {c : AV} {x : Value} (hc : RA Pr φ c x) : RL Pr φ (cs.set o c) (xs.setIfInBounds o x):=by
 refine ⟨by simp [h.1],fun j c' x' a b=>?_⟩
 by_cases hj : j = o
 ·subst hj
  rcases Nat.lt_or_ge j cs.length with hlt | hge
  ·rw [List.getElem?_set_self hlt] at a
   rw [Array.getElem?_setIfInBounds_self_of_lt (by have:=h.1; omega)] at b
   cases a; cases b; exact hc
  ·rw [List.getElem?_eq_none (by simpa using hge)] at a; cases a
 ·rw [List.getElem?_set_ne (by omega)] at a
  rw [Array.getElem?_setIfInBounds_ne (by omega)] at b
  exact h.2 j c' x' a b
theorem setAll_rl (off : Nat) : ∀ (vs : List AV) (ys : List Value) (k : Nat) (cs : List AV) (xs : Array Value),RL Pr φ cs xs → vs.length = ys.length → (∀ (j : Nat) (c : AV) (x : Value),vs[j]? = some c → ys[j]? = some x → RA Pr φ c x) →
  RL Pr φ (setAll cs (off + k) vs) ((ys.zipIdx k).foldl (fun cs (c,j)=>cs.setIfInBounds (off + j) c) xs)
 | [],ys,k,cs,xs,h,hl,hc=>by
  have : ys = []:=List.eq_nil_of_length_eq_zero (by simpa using hl.symm)
  subst this; exact h
 | v :: vs,[],k,cs,xs,h,hl,hc=>by simp at hl
 | v :: vs,y :: ys,k,cs,xs,h,hl,hc=>by
  simp only [setAll,List.zipIdx_cons,List.foldl_cons,Nat.add_assoc]
  exact setAll_rl off vs ys (k + 1) _ _ (h.set _ (hc 0 v y rfl rfl)) (by simpa using hl) fun j c x a b=>hc (j + 1) c x (by simpa using a) (by simpa using b)
def fillA (place : Nat → Option (Nat × Nat)) (cs : List AV) : List (Nat × AV) → Option (List AV)
 | []=>some cs
 | (i,v) :: rest =>
  match place i,cellsAV v with
  | some (off,size),some vs=>if vs.length = size ∧ off + size ≤ cs.length then fillA place (setAll cs off vs) rest else none
  | _,_=>none
theorem fill_ok (place : Nat → Option (Nat × Nat)) : ∀ (ps : List (Nat × AV)) (qs : List (Nat × Value)) (cs cs' : List AV) (xs : Array Value),RL Pr φ cs xs → ps.length = qs.length → (∀ (j : Nat) (p : Nat × AV) (q : Nat × Value),ps[j]? = some p → qs[j]? = some q → p.1 = q.1 ∧ RA Pr φ p.2 q.2) →
  fillA place cs ps = some cs' → ∃ xs',Instr.fill place xs qs = some xs' ∧ RL Pr φ cs' xs'
 | [],qs,cs,cs',xs,h,hl,hc,hf=>by
  have : qs = []:=List.eq_nil_of_length_eq_zero (by simpa using hl.symm)
  subst this
  simp only [fillA,Option.some.injEq] at hf
  subst hf
  exact ⟨xs,rfl,h⟩
 | (i,v) :: ps,[],cs,cs',xs,h,hl,hc,hf=>by simp at hl
 | (i,v) :: ps,(i',y) :: qs,cs,cs',xs,h,hl,hc,hf=>by
  obtain ⟨hi,hv⟩:=hc 0 (i,v) (i',y) rfl rfl
  simp only at hi hv
  subst hi
  simp only [fillA] at hf
  split at hf
  ·rename_i off size vs hp hcv
   split at hf
   ·rename_i hb
    obtain ⟨⟨hvl,hvc⟩,_⟩:=cellsAV_ok hv hcv
    have h1:=setAll_rl off vs y.cells.toList 0 cs xs h (by simpa using hvl) (fun j c x a b=>hvc j c x a (by simpa using b))
    obtain ⟨xs',h2,h3⟩:=fill_ok place ps qs _ cs' _ h1 (by simpa using hl) (fun j p q a b=>hc (j + 1) p q (by simpa using a) (by simpa using b)) (by simpa using hf)
    refine ⟨xs',?_,h3⟩
    unfold Instr.fill
    rw [hp]
    have e1 : ¬ (y.cells.size ≠ size ∨ off + y.cells.size > xs.size):=by have:=h.1; omega
    simp only [ne_eq,Bool.or_eq_true,decide_eq_true_eq]
    rw [if_neg (by simpa using e1)]
    rw [← h2]
    congr 1
    rw [← Array.foldl_toList,Array.toList_zipIdx]
   ·cases hf
  ·cases hf
def zeroA (P : Program) (t : TypeId) : Option (List Value):=(P.info? t).bind fun i=>i.zero.bind fun z=>if z.cells.toList.all atom then some z.cells.toList else none
theorem zeroA_ok {t : TypeId} {zs : List Value} (h : zeroA P t = some zs) : ∃ z : Value,(∀ w,(zeroValue t).run P w = .ok z w) ∧ z.cells = zs.toArray ∧ zs.all atom = true:=by
 unfold zeroA at h
 obtain ⟨i,hi,h⟩:=Option.bind_eq_some_iff.1 h
 obtain ⟨z,hz,h⟩:=Option.bind_eq_some_iff.1 h
 split at h
 ·rename_i ha
  cases h
  exact ⟨z,fun w=>by simp [zeroValue,typeInfo,hi,hz],by simp,ha⟩
 ·cases h
theorem rl_atoms {zs : List Value} (h : zs.all atom = true) : RL Pr φ (zs.map fun y=>.p (.v y)) zs.toArray:=⟨by simp,ra_atoms h⟩
def buildA (P : Program) (t : TypeId) (parts : List (Nat × AV)) : Option AV :=
 match zeroA P t,P.underlying t with
 | some zs,some (.struct fields)=>if fields.toList.all (fun fd=>(P.info? fd.type).isSome) then (fillA (fun i=>(fields[i]?).map fun fd=>(fd.offset,P.cellsOf fd.type)) (zs.map fun y=>.p (.v y)) parts).map .agg else none
 | some zs,some (.array _ e)=>if (P.info? e).isSome then (fillA (fun i=>some (i * P.cellsOf e,P.cellsOf e)) (zs.map fun y=>.p (.v y)) parts).map .agg else none
 | _,_=>none
theorem run_places {fields : Array Field} (h : fields.toList.all (fun fd=>(P.info? fd.type).isSome) = true) (w : World) :
  (fields.mapM fun f=>(do pure (f.offset,← sizeOf f.type) : Sem (Nat × Nat))).run P w = .ok (fields.map fun fd=>(fd.offset,P.cellsOf fd.type)) w:=by
 have key : ∀ (l : List Field),l.all (fun fd=>(P.info? fd.type).isSome) = true → (l.mapM fun f=>(do pure (f.offset,← sizeOf f.type) : Sem (Nat × Nat))).run P w = .ok (l.map fun fd=>(fd.offset,P.cellsOf fd.type)) w:=by
  intro l
  induction l with
  | nil=>intro _; simp
  | cons f l ih =>
   intro hl
   simp only [List.all_cons,Bool.and_eq_true] at hl
   rw [List.mapM_cons]
   simp only [Sem.run_bind,run_cellsOf' hl.1,Result.andThen_ok,Sem.run_pure,ih hl.2,List.map_cons]
 have h2 : (fields.mapM fun f=>(do pure (f.offset,← sizeOf f.type) : Sem (Nat × Nat))) = List.toArray <$> (fields.toList.mapM fun f=>(do pure (f.offset,← sizeOf f.type) : Sem (Nat × Nat))):=by
  rw [← Array.toList_mapM,← comp_map]
  have : (List.toArray ∘ Array.toList : Array (Nat × Nat) → Array (Nat × Nat)) = id:=by funext a; simp
  rw [this,id_map]
 rw [h2]
 simp only [Sem.run_map,key _ h,Result.andThen_ok]
 have e : (fields.toList.map fun fd : Field=>(fd.offset,P.cellsOf fd.type)).toArray = fields.map fun fd : Field=>(fd.offset,P.cellsOf fd.type):=by
  apply Array.ext'
  simp
 rw [e]
theorem buildA_ok {t : TypeId} {ps : List (Nat × AV)} {qs : Array (Nat × Value)} {v : AV} (hl : ps.length = qs.size) (hc : ∀ (j : Nat) (p : Nat × AV) (q : Nat × Value),ps[j]? = some p → qs[j]? = some q → p.1 = q.1 ∧ RA Pr φ p.2 q.2) (h : buildA P t ps = some v) :
  ∃ y,RA Pr φ v y ∧ ∀ w,(Instr.build t qs).run P w = .ok y w:=by
 unfold buildA at h
 split at h
 ·rename_i zs fields hz ht
  split at h
  ·rename_i hall
   obtain ⟨cs',hf,rfl⟩:=Option.map_eq_some_iff.1 h
   obtain ⟨z,hz1,hz2,hz3⟩:=zeroA_ok hz
   obtain ⟨xs',h1,h2⟩:=fill_ok _ ps qs.toList _ cs' _ (rl_atoms (Pr:=Pr) (φ:=φ) hz3) (by simpa using hl) (fun j p q a b=>hc j p q a (by simpa using b)) hf
   refine ⟨.agg xs',.agg h2.1 h2.2,fun w=>?_⟩
   have e : (fun i : Nat=>(fields.map fun fd : Field=>(fd.offset,P.cellsOf fd.type))[i]?) = fun i=>(fields[i]?).map fun fd : Field=>(fd.offset,P.cellsOf fd.type):=by funext i; simp
   simp only [Instr.build,Sem.run_bind,hz1,Result.andThen_ok,run_underlying ht,run_places hall,hz2]
   rw [e,h1]
   rfl
  ·cases h
 ·rename_i zs n e hz ht
  split at h
  ·rename_i hall
   obtain ⟨cs',hf,rfl⟩:=Option.map_eq_some_iff.1 h
   obtain ⟨z,hz1,hz2,hz3⟩:=zeroA_ok hz
   obtain ⟨xs',h1,h2⟩:=fill_ok _ ps qs.toList _ cs' _ (rl_atoms (Pr:=Pr) (φ:=φ) hz3) (by simpa using hl) (fun j p q a b=>hc j p q a (by simpa using b)) hf
   refine ⟨.agg xs',.agg h2.1 h2.2,fun w=>?_⟩
   simp only [Instr.build,Sem.run_bind,hz1,Result.andThen_ok,run_underlying ht,run_cellsOf' hall,hz2]
   rw [h1]
   rfl
  ·cases h
 ·cases h
end
end Go.Proofs.YtfiohepfohhibaaDoor
namespace Go.Proofs.YtfiohepfohhibaaDoor
open Go.RowKit
def natA (dflt : Nat) : Option AV → Option Nat
 | none=>some dflt
 | some (.p (.v (.int _ n)))=>if 0 ≤ n then some n.toNat else none
 | some _=>none
def sliceA (P : Program) (t : TypeId) (k : Nat) (rows : List (List PV)) (lo hi : Option AV) : Option AV :=
 match P.underlying t with
 | some (.slice e)=>if P.cellsOf e = k ∧ k ≠ 0 then
   match natA 0 lo,natA rows.length hi with
   | some l,some h=>if l ≤ h ∧ h ≤ rows.length then some (.p (.sl k ((rows.drop l).take (h - l)))) else none
   | _,_=>none
  else none
 | _=>none
def fullA (P : Program) (t : TypeId) (k : Nat) (rows : List (List PV)) (h m : Int) : Option AV :=
 match P.underlying t with
 | some (.slice e)=>if P.cellsOf e = k ∧ k ≠ 0 ∧ h = (rows.length : Int) ∧ m = (rows.length : Int) then some (.p (.fsl k rows)) else none
 | _=>none
def OR (Pr : Prot) (φ : Fi2) : Option AV → Option Value → Prop
 | none,none=>True
 | some v,some x=>RA Pr φ v x
 | _,_=>False
section
variable {P : Program} {Pr : Prot} {φ : Fi2}
theorem natA_ok {dflt n : Nat} {v : Option AV} {x : Option Value} (h : OR Pr φ v x) (hn : natA dflt v = some n) : (x = none ∧ n = dflt) ∨ ∃ k m,x = some (.int k m) ∧ 0 ≤ m ∧ n = m.toNat:=by
 unfold natA at hn
 split at hn
 ·cases x with
  | none=>left; exact ⟨rfl,by simpa using hn.symm⟩
  | some x=>exact h.elim
 ·rename_i k m
  split at hn
  ·rename_i h0
   cases hn
   cases x with
   | none=>exact h.elim
   | some x=>right; exact ⟨k,m,by rw [atomAV_ok h rfl],h0,rfl⟩
  ·cases hn
 ·cases hn
theorem sliceA_ok {t k : Nat} {rows : List (List PV)} {lo hi : Option AV} {x : Value} {l h : Option Value} {v : AV} (hx : RP Pr (.sl k rows) x) (hl : OR Pr φ lo l) (hh : OR Pr φ hi h) (hs : sliceA P t k rows lo hi = some v) :
  ∃ y,RA Pr φ v y ∧ ∀ w,(Instr.sliceAt t x l h none).run P w = .ok y w:=by
 unfold sliceA at hs
 split at hs
 ·rename_i e ht
  split at hs
  ·rename_i hk
   obtain ⟨hk,hk0⟩:=hk
   split at hs
   ·rename_i a b ha hb
    split at hs
    ·rename_i hab
     obtain ⟨hab,hbl⟩:=hab
     cases hs
     have h1:=natA_ok hl ha
     have h2:=natA_ok hh hb
     have bounds : ∀ cap,rows.length ≤ cap → ∀ w,(Instr.sliceBounds true rows.length cap l h none).run P w = .ok (a,b,cap) w:=by
      intro cap hcap w
      rcases h1 with ⟨rfl,rfl⟩ | ⟨k1,m1,rfl,hm1,rfl⟩ <;> rcases h2 with ⟨rfl,rfl⟩ | ⟨k2,m2,rfl,hm2,rfl⟩
      ·simp [Instr.sliceBounds]
      ·have : m2 ≤ (cap : Int):=by omega
       simp [Instr.sliceBounds,Instr.sliceBound,asIntOf,hm2,this]
      ·have : m1 ≤ (rows.length : Int):=by omega
       simp [Instr.sliceBounds,Instr.sliceBound,asIntOf,hm1,this]
      ·have h3 : m2 ≤ (cap : Int):=by omega
       have h4 : m1 ≤ m2:=by omega
       simp [Instr.sliceBounds,Instr.sliceBound,asIntOf,hm1,hm2,h3,h4,Int.toNat_of_nonneg hm2]
     have hlen : ((rows.drop a).take (b - a)).length = b - a:=by simp; omega
     have run : ∀ (A : Option Addr) (cap : Nat),rows.length ≤ cap → ∀ w,(Instr.sliceAt t (.slice A rows.length cap) l h none).run P w = .ok (.slice (if cap = a then A else A.map (·.add (a * k))) (b - a) (cap - a)) w:=by
      intro A cap hcap w
      simp [Instr.sliceAt,Instr.slice,run_underlying ht,bounds cap hcap w,run_cellsOf hk hk0]
     cases hx with
     | slemp _ A cap hcap =>
      have e0 : b - a = 0:=by simp at hbl; omega
      refine ⟨_,?_,fun w=>run A cap (Nat.zero_le _) w⟩
      rw [e0,List.take_zero]
      exact .p (.slemp k _ _ (by omega))
     | @sl _ bb off cap _ vs c1 c2 c3 c4 c5 =>
      refine ⟨_,?_,fun w=>run _ cap c1 w⟩
      have hrow : ∀ (r : Nat) (row : List PV),((rows.drop a).take (b - a))[r]? = some row → rows[a + r]? = some row:=fun r row hr=>by
       rw [List.getElem?_take] at hr
       split at hr
       ·rwa [List.getElem?_drop] at hr
       ·cases hr
      split
      ·rename_i hca
       have e0 : b - a = 0:=by omega
       have e1 : cap - a = 0:=by omega
       rw [e0,e1,List.take_zero]
       exact .p (.sl (rows:=[]) (fun _ _=>undef) (Nat.le_refl _) (by unfold maxLen; omega) (fun r row h=>by simp at h) (fun r row j p h=>by simp at h) (fun r row j p h=>by simp at h))
      ·simp only [Option.map_some,addN]
       have:=RP.sl (Pr:=Pr) (rows:=(rows.drop a).take (b - a)) (b:=bb) (off:=off + a * k) (cap:=cap - a) (k:=k) (fun r j=>vs (a + r) j) (by rw [hlen]; omega) (by omega) (fun r row hr=>c3 _ row (hrow r row hr))
        (fun r row j p hr hp=>by have:=c4 _ row j p (hrow r row hr) hp; rw [← this]; congr 1; rw [Nat.add_mul]; omega) (fun r row j p hr hp=>c5 _ row j p (hrow r row hr) hp)
       rw [hlen] at this
       exact .p this
    ·cases hs
   ·cases hs
  ·cases hs
 ·cases hs
theorem fullA_ok {t k : Nat} {rows : List (List PV)} {x : Value} {h m : Int} {k1 k2 : IntKind} {v : AV} (hx : RP Pr (.sl k rows) x) (hs : fullA P t k rows h m = some v) :
  ∃ y,RA Pr φ v y ∧ ∀ w,(Instr.sliceAt t x none (some (.int k1 h)) (some (.int k2 m))).run P w = .ok y w:=by
 unfold fullA at hs
 split at hs
 ·rename_i e ht
  split at hs
  ·rename_i hc
   obtain ⟨hk,hk0,rfl,rfl⟩:=hc
   cases hs
   obtain ⟨A,cap,rfl,hcap⟩ : ∃ A cap,x = .slice A rows.length cap ∧ rows.length ≤ cap:=by
    cases hx with
    | slemp=>exact ⟨_,_,rfl,Nat.zero_le _⟩
    | sl vs c1=>exact ⟨_,_,rfl,c1⟩
   refine ⟨.slice A rows.length rows.length,.p (.fsl hx),fun w=>?_⟩
   have ha : A.map (fun x=>x.add 0) = A:=by
    cases A with
    | none=>rfl
    | some a=>simp [Addr.add]
   simp [Instr.sliceAt,Instr.slice,Instr.sliceBounds,Instr.sliceBound,asIntOf,hcap,run_underlying ht,run_cellsOf hk hk0,ha]
  ·cases hs
 ·cases hs
end
def lenA (P : Program) (c : Call) (fr : List AV) : Option AV :=
 match c.callee,c.args,c.argTypes with
 | .builtin .len,⟨[x]⟩,⟨[t]⟩ =>
  match P.underlying t,evA fr x with
  | some (.slice _),.p (.sl _ rows)=>some (.p (.v (.int .i64 rows.length)))
  | some (.slice _),.osl _ rows _ _=>some (.p (.v (.int .i64 rows.length)))
  | some (.slice _),.asl _ _ n _=>some (.p (.v (.int .i64 n)))
  | some (.slice _),.rsl _ _ n _=>some (.p (.v (.int .i64 n)))
  | some .string,.p (.v (.string s))=>some (.p (.v (.int .i64 s.size)))
  | _,_=>none
 | _,_,_=>none
def maxA (c : Call) (fr : List AV) : Option AV :=
 match c.callee,c.args with
 | .builtin .max,⟨[x,y]⟩ =>
  match evA fr x,evA fr y with
  | .p (.v (.int k a)),.p (.v (.int _ b))=>some (.p (.v (.int k (if b > a then b else a))))
  | _,_=>none
 | _,_=>none
def orG (a b : Option AV) : Option AV :=
 match a with
 | some v=>some v
 | none=>b
def unV (op : UnOp) (x : Value) : Option Value :=
 match op,x with
 | .not,.bool b=>some (.bool !b)
 | .neg,.int k n=>some (.int k (k.wrap (0 - n)))
 | _,_=>none
theorem unV_ok {P : Program} {op : UnOp} {x v : Value} (h : unV op x = some v) : atom v = true ∧ ∀ w,(Op.unary op x).run P w = .ok v w:=by
 unfold unV at h
 split at h
 ·cases h; exact ⟨rfl,fun w=>rfl⟩
 ·cases h; exact ⟨rfl,fun w=>rfl⟩
 ·cases h
def indexSA (P : Program) (t : TypeId) (x ix : AV) : Option AV :=
 match P.underlying t,x,ix with
 | some .string,.p (.v (.string s)),.p (.v (.int _ n))=>if 0 ≤ n then (s.data.toList[n.toNat]?).map fun b=>.p (.v (.int .u8 b.toNat)) else none
 | _,_,_=>none
theorem indexSA_ok {P : Program} {Pr : Prot} {φ : Fi2} {t : TypeId} {v v' ix : AV} {x i : Value} (h : RA Pr φ v x) (hi : RA Pr φ ix i) (hf : indexSA P t v ix = some v') : ∃ y,RA Pr φ v' y ∧ ∀ w,(Instr.index t x i).run P w = .ok y w:=by
 unfold indexSA at hf
 split at hf
 ·rename_i s k n ht
  split at hf
  ·rename_i hn
   obtain ⟨b,hb,rfl⟩:=Option.map_eq_some_iff.1 hf
   have e1:=atomAV_ok h rfl
   have e2:=atomAV_ok hi rfl
   subst e1 e2
   have hs : s[n.toNat]? = some b:=by
    have hlt : n.toNat < s.data.toList.length:=(List.getElem?_eq_some_iff.1 hb).1
    have hlt2 : n.toNat < s.size:=by simpa using hlt
    rw [getElem?_pos s n.toNat hlt2]
    have:=(List.getElem?_eq_some_iff.1 hb).2
    rw [← this]; rfl
   exact ⟨_,.p (.v rfl),fun w=>by simp [Instr.index,asIntOf,run_underlying ht,hn,hs]⟩
  ·cases hf
 ·cases hf
def sliceSA (P : Program) (t : TypeId) (s : ByteArray) (lo hi : Option AV) : Option AV :=
 match P.underlying t with
 | some .string =>
  match natA 0 lo,natA s.size hi with
  | some l,some h=>if l ≤ h ∧ h ≤ s.size then some (.p (.v (.string (s.extract l h)))) else none
  | _,_=>none
 | _=>none
theorem sliceSA_ok {P : Program} {Pr : Prot} {φ : Fi2} {t : TypeId} {s : ByteArray} {lo hi : Option AV} {l h : Option Value} {v : AV} (hl : OR Pr φ lo l) (hh : OR Pr φ hi h) (hs : sliceSA P t s lo hi = some v) :
  ∃ y,RA Pr φ v y ∧ ∀ w,(Instr.sliceAt t (.string s) l h none).run P w = .ok y w:=by
 unfold sliceSA at hs
 split at hs
 ·rename_i ht
  split at hs
  ·rename_i a b ha hb
   split at hs
   ·rename_i hab
    obtain ⟨hab,hbl⟩:=hab
    cases hs
    have h1:=natA_ok hl ha
    have h2:=natA_ok hh hb
    have bounds : ∀ w,(Instr.sliceBounds false s.size s.size l h none).run P w = .ok (a,b,s.size) w:=by
     intro w
     rcases h1 with ⟨rfl,rfl⟩ | ⟨k1,m1,rfl,hm1,rfl⟩ <;> rcases h2 with ⟨rfl,rfl⟩ | ⟨k2,m2,rfl,hm2,rfl⟩
     ·simp [Instr.sliceBounds]
     ·have : m2 ≤ (s.size : Int):=by omega
      simp [Instr.sliceBounds,Instr.sliceBound,asIntOf,hm2,this]
     ·have : m1 ≤ (s.size : Int):=by omega
      simp [Instr.sliceBounds,Instr.sliceBound,asIntOf,hm1,this]
     ·have h3 : m2 ≤ (s.size : Int):=by omega
      have h4 : m1 ≤ m2:=by omega
      simp [Instr.sliceBounds,Instr.sliceBound,asIntOf,hm1,hm2,h3,h4,Int.toNat_of_nonneg hm2]
    exact ⟨_,.p (.v rfl),fun w=>by simp [Instr.sliceAt,Instr.slice,run_underlying ht,bounds w]⟩
   ·cases hs
  ·cases hs
 ·cases hs
def nilA (P : Program) (T : TypeId) (op : BinOp) (rows : List (List PV)) : Option AV :=
 match P.underlying T with
 | some (.slice _) =>
  match op,rows with
  | .eql,[]=>some .bl
  | .neq,[]=>some .bl
  | .eql,_ :: _=>some (.p (.v (.bool false)))
  | .neq,_ :: _=>some (.p (.v (.bool true)))
  | _,_=>none
 | _=>none
theorem nilA_ok {P : Program} {Pr : Prot} {φ : Fi2} {op : BinOp} {k : Nat} {rows : List (List PV)} {v : AV} {y : Value} {T : TypeId} (h : RP Pr (.sl k rows) y) (hv : nilA P T op rows = some v) (xo yo : Operand) :
  ∃ z,RA Pr φ v z ∧ ∀ w,(do eqGuard op T xo yo y (.slice none 0 0); binOp op T y (.slice none 0 0) : Sem Value).run P w = .ok z w:=by
 have e1 : ∀ (A : Option Addr) (n c : Nat) (w : World),(Op.equal T (.slice A n c) (.slice none 0 0)).run P w = .ok A.isNone w:=fun A n c w=>by
  unfold nilA at hv
  split at hv
  ·rename_i e ht
   rw [Op.equal,show Op.maxDepth = 9999 + 1 from rfl,Op.equalIn]
   cases A <;> simp [run_underlying ht]
  ·cases hv
 unfold nilA at hv
 split at hv
 ·cases h with
  | slemp _ A cap hc =>
   split at hv
   ·cases hv; exact ⟨.bool A.isNone,.bl _,fun w=>by simp [eqGuard,binOp,e1]⟩
   ·cases hv; exact ⟨.bool !A.isNone,.bl _,fun w=>by simp [eqGuard,binOp,e1]⟩
   ·rename_i heq; cases heq
   ·rename_i heq; cases heq
   ·cases hv
  | sl vs h1 h2 h3 h4 h5 =>
   split at hv
   ·cases hv; exact ⟨.bool false,.bl _,fun w=>by simp [eqGuard,binOp,e1]⟩
   ·cases hv; exact ⟨.bool true,.bl _,fun w=>by simp [eqGuard,binOp,e1]⟩
   ·cases hv; exact ⟨.bool false,.p (.v rfl),fun w=>by simp [eqGuard,binOp,e1]⟩
   ·cases hv; exact ⟨.bool true,.p (.v rfl),fun w=>by simp [eqGuard,binOp,e1]⟩
   ·cases hv
 ·cases hv
def evP (P : Program) (o : Oper) (fr : List AV) : Option AV :=
 match o.op with
 | .move x=>some (evA fr x)
 | .assign x=>some (evA fr x)
 | .pick c a b =>
  match evA fr c with
  | .p (.v (.bool t))=>some (if t = true then evA fr a else evA fr b)
  | _=>none
 | .nilCheck x =>
  match evA fr x with
  | .ptr d i o=>some (.ptr d i o)
  | .rptr d i n o=>some (.rptr d i n o)
  | .rp cs=>some (.rp cs)
  | .bx cs=>some (.bx cs)
  | .fn (.func f) as bs=>some (.fn (.func f) as bs)
  | _=>none
 | .fieldAddr s x f=>fieldA P s (evA fr x) f
 | .indexAddr t x ix=>indexA P t (evA fr x) (evA fr ix)
 | .index t x ix=>orG (indexSA P t (evA fr x) (evA fr ix)) (genP P o fr)
 | .extract t ix =>
  match evA fr t with
  | .tup cs=>cs[ix]?
  | _=>none
 | .field T x f =>
  match evA fr x,P.underlying T with
  | .agg cs,some (.struct fields)=>(fields[f]?).bind fun fd=>partV P fd.type cs fd.offset
  | _,_=>none
 | .build T parts=>buildA P T (parts.toList.map fun q=>(q.1,evA fr q.2))
 | .makeFunc fn first captured=>some (.fn fn (first.toList.map (evA fr)) (captured.toList.map (evA fr)))
 | .slice t x lo hi none =>
  match evA fr x with
  | .p (.sl k rows)=>sliceA P t k rows (lo.map (evA fr)) (hi.map (evA fr))
  | .osl k rows _ _=>sliceA P t k rows (lo.map (evA fr)) (hi.map (evA fr))
  | .p (.v (.string s))=>sliceSA P t s (lo.map (evA fr)) (hi.map (evA fr))
  | _=>genP P o fr
 | .slice t x none (some hi) (some mx) =>
  match evA fr x,evA fr hi,evA fr mx with
  | .p (.sl k rows),.p (.v (.int _ h)),.p (.v (.int _ m))=>fullA P t k rows h m
  | _,_,_=>genP P o fr
 | .binOp op T x y _ =>
  match evA fr x,evA fr y with
  | .p (.v a),.p (.v b)=>orG ((binV op a b).map fun v=>.p (.v v)) (genP P o fr)
  | .p (.sl _ rows),.p (.v (.slice none 0 0))=>nilA P T op rows
  | _,_=>genP P o fr
 | .unOp op _ x =>
  match evA fr x with
  | .p (.v a)=>orG ((unV op a).map fun v=>.p (.v v)) (genP P o fr)
  | _=>none
 | .call c=>orG (lenA P c fr) (orG (maxA c fr) (genP P o fr))
 | _=>genP P o fr
section
variable {P : Program} {Pr : Prot} {φ : Fi2}
theorem binV_atom {op : BinOp} {a b v : Value} (h : binV op a b = some v) : atom v = true:=by
 unfold binV at h
 split at h
 ·split at h
  ·split at h <;> first | (cases h; rfl) | cases h
  ·cases h
 ·split at h
  ·split at h
   ·cases h; rfl
   ·cases h
  ·cases h; rfl
  ·cases h; rfl
  ·cases h
 ·cases h
theorem or_map {fr : List AV} {a : Act} (h : RF Pr φ fr a) : ∀ x : Option Operand,OR Pr φ (x.map (evA fr)) (x.map a.eval)
 | none=>trivial
 | some x=>h.ev x
theorem lenA_ok {c : Call} {fr : List AV} {a : Act} {v : AV} {T : TypeId} (h : RF Pr φ fr a) (hv : lenA P c fr = some v) : ∃ y,RA Pr φ v y ∧ ∀ w,(do let d ← resolve a.eval c T; invoke d.target d.args : Sem Next).run P w = .ok (.value y) w:=by
 obtain ⟨callee,args,argTypes⟩:=c
 unfold lenA at hv
 split at hv
 ·rename_i x t e1 e2 e3
  simp only at e1 e2 e3
  subst e1 e2 e3
  have key : ∀ e k rows,P.underlying t = some (.slice e) → RP Pr (.sl k rows) (a.eval x) → ∀ w,(do let d ← resolve a.eval ⟨.builtin .len,#[x],#[t]⟩ T; invoke d.target d.args : Sem Next).run P w = .ok (.value (.int .i64 rows.length)) w:=fun e k rows ht hx w=>by
   obtain ⟨A,cap,hA⟩ : ∃ A cap,a.eval x = .slice A rows.length cap:=by
    generalize a.eval x = y at hx
    cases hx with
    | slemp=>exact ⟨_,_,rfl⟩
    | sl=>exact ⟨_,_,rfl⟩
   simp [resolve,invoke,builtin,Builtin.len_,run_underlying ht,hA,goInt]
  split at hv
  ·rename_i e k rows ht hx
   cases hv
   have:=h.ev x
   rw [hx] at this
   cases this with
   | p hp=>exact ⟨_,.p (.v rfl),fun w=>key e k rows ht hp w⟩
  ·rename_i e k rows d i ht hx
   cases hv
   have:=h.ev x
   rw [hx] at this
   exact ⟨_,.p (.v rfl),fun w=>key e k rows ht this.sl w⟩
  ·rename_i e d i n k ht hx
   cases hv
   have:=h.ev x
   rw [hx] at this
   generalize hA : a.eval x = y at this
   cases this with
   | asl=>exact ⟨_,.p (.v rfl),fun w=>by simp [resolve,invoke,builtin,Builtin.len_,run_underlying ht,hA,goInt]⟩
  ·rename_i e d i n k ht hx
   cases hv
   have:=h.ev x
   rw [hx] at this
   generalize hA : a.eval x = y at this
   cases this with
   | rnil=>exact ⟨_,.p (.v rfl),fun w=>by simp [resolve,invoke,builtin,Builtin.len_,run_underlying ht,hA,goInt]⟩
   | rsl=>exact ⟨_,.p (.v rfl),fun w=>by simp [resolve,invoke,builtin,Builtin.len_,run_underlying ht,hA,goInt]⟩
  ·rename_i str ht hx
   cases hv
   have:=atomAV_ok (h.ev x) (by rw [hx]; rfl)
   exact ⟨_,.p (.v rfl),fun w=>by simp [resolve,invoke,builtin,Builtin.len_,run_underlying ht,this,goInt]⟩
  ·cases hv
 ·cases hv
theorem maxA_ok {c : Call} {fr : List AV} {a : Act} {v : AV} {T : TypeId} (h : RF Pr φ fr a) (hv : maxA c fr = some v) : ∃ y,RA Pr φ v y ∧ ∀ w,(do let d ← resolve a.eval c T; invoke d.target d.args : Sem Next).run P w = .ok (.value y) w:=by
 obtain ⟨callee,args,argTypes⟩:=c
 unfold maxA at hv
 split at hv
 ·rename_i x y e1 e2
  simp only at e1 e2
  subst e1 e2
  split at hv
  ·rename_i k p k' q hx hy
   cases hv
   have e1:=atomAV_ok (h.ev x) (by rw [hx]; rfl)
   have e2:=atomAV_ok (h.ev y) (by rw [hy]; rfl)
   exact ⟨_,.p (.v rfl),fun w=>by simp [resolve,invoke,builtin,Builtin.max_,Builtin.max2,e1,e2]⟩
  ·cases hv
 ·cases hv
theorem evP_ok {o : Oper} {fr : List AV} {a : Act} {v : AV} (h : RF Pr φ fr a) (hv : evP P o fr = some v) : Yl P Pr φ o a v:=by
 have lift : ∀ (s : Sem Value),(∃ y,RA Pr φ v y ∧ ∀ w,s.run P w = .ok y w) → ∃ y,RA Pr φ v y ∧ ∀ w,(do pure (Next.value (← s)) : Sem Next).run P w = .ok (.value y) w:=fun s ⟨y,h1,h2⟩=>⟨y,h1,fun w=>by simp [h2]⟩
 unfold evP at hv
 unfold Yl
 split at hv
 ·rename_i x ho; cases hv; exact ⟨_,h.ev x,fun w=>by simp [execOp,ho]⟩
 ·rename_i x ho; cases hv; exact ⟨_,h.ev x,fun w=>by simp [execOp,ho]⟩
 ·rename_i c x y ho
  split at hv
  ·rename_i t ht
   cases hv
   have hc:=atomAV_ok (h.ev c) (by rw [ht]; rfl)
   cases t with
   | true=>exact ⟨_,h.ev x,fun w=>by simp [execOp,ho,hc,asBool]⟩
   | false=>exact ⟨_,h.ev y,fun w=>by simp [execOp,ho,hc,asBool]⟩
  ·cases hv
 ·rename_i x ho
  have hx:=h.ev x
  split at hv
  ·rename_i d i oo he
   cases hv
   rw [he] at hx
   generalize hy : a.eval x = y at hx
   refine ⟨y,hx,fun w=>?_⟩
   cases hx with
   | ptr=>simp only [execOp,ho,hy]; rfl
  ·rename_i d i n oo he
   cases hv
   rw [he] at hx
   generalize hy : a.eval x = y at hx
   refine ⟨y,hx,fun w=>?_⟩
   cases hx with
   | rptr=>simp only [execOp,ho,hy]; rfl
  ·rename_i cs he
   cases hv
   rw [he] at hx
   generalize hy : a.eval x = y at hx
   refine ⟨y,hx,fun w=>?_⟩
   cases hx with
   | rp=>simp only [execOp,ho,hy]; rfl
  ·rename_i cs he
   cases hv
   rw [he] at hx
   generalize hy : a.eval x = y at hx
   refine ⟨y,hx,fun w=>?_⟩
   cases hx with
   | bx=>simp only [execOp,ho,hy]; rfl
  ·rename_i f as bs he
   cases hv
   rw [he] at hx
   generalize hy : a.eval x = y at hx
   refine ⟨y,hx,fun w=>?_⟩
   cases hx with
   | fn=>simp only [execOp,ho,hy]; rfl
  ·cases hv
 ·rename_i s x f ho
  have:=lift _ (fieldA_ok (h.ev x) hv)
  simpa [execOp,ho] using this
 ·rename_i t x ix ho
  have:=lift _ (indexA_ok (h.ev x) (h.ev ix) hv)
  simpa [execOp,ho] using this
 ·rename_i t x ix ho
  unfold orG at hv
  split at hv
  ·rename_i z hz
   cases hv
   have:=lift _ (indexSA_ok (h.ev x) (h.ev ix) hz)
   simpa [execOp,ho] using this
  ·exact genP_ok h hv
 ·rename_i t ix ho
  have hx:=h.ev t
  split at hv
  ·rename_i cs he
   rw [he] at hx
   generalize hy : a.eval t = y at hx
   cases hx with
   | @tup _ xs hl hc =>
    have hlt : ix < xs.size:=by have:=(List.getElem?_eq_some_iff.1 hv).1; omega
    have hx : xs[ix]? = some xs[ix]:=Array.getElem?_eq_getElem hlt
    exact ⟨xs[ix],hc ix v _ hv hx,fun w=>by simp [execOp,ho,hy,Instr.extract,hx]⟩
  ·cases hv
 ·rename_i T x f ho
  have hx:=h.ev x
  split at hv
  ·rename_i cs fields he ht
   rw [he] at hx
   obtain ⟨fd,hfd,hp⟩:=Option.bind_eq_some_iff.1 hv
   generalize hy : a.eval x = y at hx
   cases hx with
   | @agg _ xs hl hc =>
    obtain ⟨z,h1,h2⟩:=partV_ok hl hc hp
    exact ⟨z,h1,fun w=>by simp [execOp,ho,hy,Instr.field,run_underlying ht,hfd,asAgg,h2]⟩
  ·cases hv
 ·rename_i T parts ho
  have:=lift _ (buildA_ok (qs:=parts.map fun (i,x)=>(i,a.eval x)) (by simp) (fun j p q hp hq=>by
   rw [List.getElem?_map] at hp
   obtain ⟨q0,h0,rfl⟩:=Option.map_eq_some_iff.1 hp
   have h0' : parts[j]? = some q0:=by simpa using h0
   rw [Array.getElem?_map,h0'] at hq
   cases hq
   exact ⟨rfl,h.ev _⟩) hv)
  simpa [execOp,ho] using this
 ·rename_i fn first captured ho
  cases hv
  refine ⟨.func fn (first.map a.eval) (captured.map a.eval),.fn (by simp) (by simp) (fun j c x hc hx=>?_) (fun j c x hc hx=>?_),fun w=>by simp [execOp,ho,Instr.makeFunc]⟩
  ·rw [List.getElem?_map] at hc
   obtain ⟨q0,h0,rfl⟩:=Option.map_eq_some_iff.1 hc
   have h0' : first[j]? = some q0:=by simpa using h0
   rw [Array.getElem?_map,h0'] at hx
   cases hx
   exact h.ev _
  ·rw [List.getElem?_map] at hc
   obtain ⟨q0,h0,rfl⟩:=Option.map_eq_some_iff.1 hc
   have h0' : captured[j]? = some q0:=by simpa using h0
   rw [Array.getElem?_map,h0'] at hx
   cases hx
   exact h.ev _
 ·rename_i t x lo hi ho
  have hx:=h.ev x
  split at hv
  ·rename_i k rows he
   rw [he] at hx
   cases hx with
   | p hp =>
    have:=lift _ (sliceA_ok hp (or_map h lo) (or_map h hi) hv)
    simpa [execOp,ho] using this
  ·rename_i k rows d i he
   rw [he] at hx
   have:=lift _ (sliceA_ok hx.sl (or_map h lo) (or_map h hi) hv)
   simpa [execOp,ho] using this
  ·rename_i s he
   have e1:=atomAV_ok hx (by rw [he]; rfl)
   have:=lift _ (sliceSA_ok (or_map h lo) (or_map h hi) hv)
   simpa [execOp,ho,e1] using this
  ·exact genP_ok h hv
 ·rename_i t x hi mx ho
  have hx:=h.ev x
  split at hv
  ·rename_i k rows k1 n1 k2 n2 he h1 h2
   rw [he] at hx
   have e1:=atomAV_ok (h.ev hi) (by rw [h1]; rfl)
   have e2:=atomAV_ok (h.ev mx) (by rw [h2]; rfl)
   cases hx with
   | p hp =>
    have:=lift _ (fullA_ok (k1:=k1) (k2:=k2) hp hv)
    simpa [execOp,ho,e1,e2] using this
  ·exact genP_ok h hv
 ·rename_i op T x y yt ho
  split at hv
  ·rename_i p q hp hq
   unfold orG at hv
   split at hv
   ·rename_i z hz
    cases hv
    obtain ⟨u,hu,rfl⟩:=Option.map_eq_some_iff.1 hz
    have e1:=atomAV_ok (h.ev x) (by rw [hp]; rfl)
    have e2:=atomAV_ok (h.ev y) (by rw [hq]; rfl)
    refine ⟨u,.p (.v (binV_atom hu)),fun w=>?_⟩
    have:=binV_ok (P:=P) hu T x y w
    simp only [execOp,ho,e1,e2,Sem.run_bind,this,Result.andThen_ok,Sem.run_pure]
   ·exact genP_ok h hv
  ·rename_i k rows hp hq
   have e2:=atomAV_ok (h.ev y) (by rw [hq]; rfl)
   have hx:=h.ev x
   rw [hp] at hx
   cases hx with
   | p hx =>
    obtain ⟨z,h1,h2⟩:=nilA_ok (P:=P) (φ:=φ) hx hv x y
    refine ⟨z,h1,fun w=>?_⟩
    have:=h2 w
    simp only [execOp,ho,e2,Sem.run_bind,this,Result.andThen_ok,Sem.run_pure]
  ·exact genP_ok h hv
 ·rename_i op T x ho
  split at hv
  ·rename_i p hp
   unfold orG at hv
   split at hv
   ·rename_i z hz
    cases hv
    obtain ⟨u,hu,rfl⟩:=Option.map_eq_some_iff.1 hz
    have e1:=atomAV_ok (h.ev x) (by rw [hp]; rfl)
    obtain ⟨h1,h2⟩:=unV_ok (P:=P) hu
    exact ⟨u,.p (.v h1),fun w=>by simp [execOp,ho,e1,h2]⟩
   ·exact genP_ok h hv
  ·cases hv
 ·rename_i c ho
  unfold orG at hv
  split at hv
  ·rename_i z hz
   cases hv
   obtain ⟨y,h1,h2⟩:=lenA_ok (T:=o.type) h hz
   exact ⟨y,h1,fun w=>by simp only [execOp,ho]; exact h2 w⟩
  ·split at hv
   ·rename_i z hz
    cases hv
    obtain ⟨y,h1,h2⟩:=maxA_ok (P:=P) (T:=o.type) h hz
    exact ⟨y,h1,fun w=>by simp only [execOp,ho]; exact h2 w⟩
   ·exact genP_ok h hv
 ·exact genP_ok h hv
end
end Go.Proofs.YtfiohepfohhibaaDoor
