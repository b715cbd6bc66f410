/- A part of the proof. The statement is proved in the claim's last text. -/
import Derived.Test.YtlclonljdagpkaaGreatDoorXMNp
import Derived.Test.YtlclonljdagpkaaGreatDoorXMLx
import Derived.Test.YtlclonljdagpkaaGreatDoorXMLd
import Derived.Test.YtlclonljdagpkaaGreatDoorXMWp
set_option linter.unusedVariables false
set_option linter.unusedSimpArgs false
set_option maxRecDepth 100000
set_option maxHeartbeats 32000000
namespace Go.Proofs.YtlclonljdagpkaaGreatDoor
open Go.RowKit
def itE (l : List It) : List (Value × AV):=l.map fun x=>(.string x.name,itV x)
def firstsL (p : List It) (fn : Bool) : Nat → List It
 | 0=>[]
 | q + 1=>match p[q]? with
  | some x=>if (decide (x.kind = 3) == fn && !againN p q x) = true then firstsL p fn q ++ [x] else firstsL p fn q
  | none=>firstsL p fn q
def mdE (m : List Fg) : List (Value × AV):=m.map fun e=>(.string e.1,.agg [B e.2])
structure Cf where
 d : Nat
 k : Nat
 jF : Nat
 jM : Nat
def Cf.up (c : Cf) : Cf:=⟨c.d + 1,c.k,c.jF,c.jM⟩
def Cf.e (c : Cf) : Nat:=c.k + c.d
def nlO (n : Nat) : AObj:=.cells [.mp 0 1,.mp 0 2,.rsl 0 4 n 2] 115
def rwO (fl : List Flt) : AObj:=.row 48 2 fl.length (rowC fltE fl)
def mdO (m : List Fg) : AObj:=.map (mdE m)
def fnO (c : Cf) (σ : Nf) : AObj:=.cells [.ptr c.k 3 0,.mp 0 c.jM,I σ.count,I σ.opn] 126
structure Lk (p : List It) (S : ASt) (e : Nat) (fl : List Flt) : Prop where
 t : get2 S e 1 = some (.map (itE (firstsL p false p.length)))
 f : get2 S e 2 = some (.map (itE (firstsL p true p.length)))
 l : get2 S e 3 = some (nlO fl.length)
 r : get2 S e 4 = some (rwO fl)
structure NAt (p : List It) (S : ASt) (c : Cf) (σ : Nf) : Prop where
 k : Lk p S c.e σ.fl
 m : get2 S c.d c.jM = some (mdO σ.made)
 n : get2 S c.d c.jF = some (fnO c σ)
 jm : c.k = 0 → 5 ≤ c.jM
 jf : c.k = 0 → 5 ≤ c.jF
 ne : c.jF ≠ c.jM
def updK (S : ASt) (e : Nat) (fl : List Flt) : ASt:=set2 (set2 S e 4 (rwO fl)) e 3 (nlO fl.length)
def updF (S : ASt) (c : Cf) (σ : Nf) : ASt:=set2 (set2 (updK S c.e σ.fl) c.d c.jM (mdO σ.made)) c.d c.jF (fnO c σ)
theorem updK_get {p : List It} {S : ASt} {e : Nat} {fl : List Flt} (h : Lk p S e fl) (fl' : List Flt) (d i : Nat) : get2 (updK S e fl') d i = if d = e ∧ i = 3 then some (nlO fl'.length) else if d = e ∧ i = 4 then some (rwO fl') else get2 S d i:=by
 unfold updK
 have h3 : get2 (set2 S e 4 (rwO fl')) e 3 = some (nlO fl.length):=by rw [get2_set _ h.r,if_neg (by simp)]; exact h.l
 rw [get2_set _ h3,get2_set _ h.r]
theorem updF_get {p : List It} {S : ASt} {c : Cf} {σ : Nf} (h : NAt p S c σ) (τ : Nf) (d i : Nat) : get2 (updF S c τ) d i = if d = c.d ∧ i = c.jF then some (fnO c τ) else if d = c.d ∧ i = c.jM then some (mdO τ.made) else if d = c.e ∧ i = 3 then some (nlO τ.fl.length) else if d = c.e ∧ i = 4 then some (rwO τ.fl) else get2 S d i:=by
 have hm:=h.jm
 have hf:=h.jf
 have hce : c.e = c.k + c.d:=rfl
 have hne:=h.ne
 unfold updF
 have h1 : get2 (updK S c.e τ.fl) c.d c.jM = some (mdO σ.made):=by
  rw [updK_get h.k,if_neg (by omega),if_neg (by omega)]; exact h.m
 have h2 : get2 (set2 (updK S c.e τ.fl) c.d c.jM (mdO τ.made)) c.d c.jF = some (fnO c σ):=by
  rw [get2_set _ h1,if_neg (by omega),updK_get h.k,if_neg (by omega),if_neg (by omega)]; exact h.n
 rw [get2_set _ h2,get2_set _ h1,updK_get h.k]
theorem NAt.updF {p : List It} {S : ASt} {c : Cf} {σ : Nf} (h : NAt p S c σ) (τ : Nf) : NAt p (updF S c τ) c τ:=by
 have hm:=h.jm
 have hf:=h.jf
 have hce : c.e = c.k + c.d:=rfl
 have hne:=h.ne
 refine ⟨⟨?_,?_,?_,?_⟩,?_,?_,hm,hf,hne⟩
 ·rw [updF_get h,if_neg (by omega),if_neg (by omega),if_neg (by omega),if_neg (by omega)]; exact h.k.t
 ·rw [updF_get h,if_neg (by omega),if_neg (by omega),if_neg (by omega),if_neg (by omega)]; exact h.k.f
 ·rw [updF_get h,if_neg (by omega),if_neg (by omega),if_pos ⟨rfl,rfl⟩]
 ·rw [updF_get h,if_neg (by omega),if_neg (by omega),if_neg (by omega),if_pos ⟨rfl,rfl⟩]
 ·rw [updF_get h,if_neg (by omega),if_pos ⟨rfl,rfl⟩]
 ·rw [updF_get h,if_pos ⟨rfl,rfl⟩]
theorem Lk.cons {p : List It} {S : ASt} {e : Nat} {fl : List Flt} (h : Lk p S e fl) (L : List AObj) : Lk p (L :: S) (e + 1) fl:=⟨h.t,h.f,h.l,h.r⟩
theorem NAt.cons {p : List It} {S : ASt} {c : Cf} {σ : Nf} (h : NAt p S c σ) (L : List AObj) : NAt p (L :: S) c.up σ:=⟨h.k.cons L,h.m,h.n,h.jm,h.jf,h.ne⟩
theorem Lk.updK {p : List It} {S : ASt} {e : Nat} {fl : List Flt} (h : Lk p S e fl) (fl' : List Flt) : Lk p (updK S e fl') e fl':=by
 refine ⟨?_,?_,?_,?_⟩
 ·rw [updK_get h,if_neg (by omega),if_neg (by omega)]; exact h.t
 ·rw [updK_get h,if_neg (by omega),if_neg (by omega)]; exact h.f
 ·rw [updK_get h,if_pos ⟨rfl,rfl⟩]
 ·rw [updK_get h,if_neg (by omega),if_pos ⟨rfl,rfl⟩]
end Go.Proofs.YtlclonljdagpkaaGreatDoor
