/- A part of the proof. The statement is proved in the claim's last text. -/
import Derived.Test.YtfbpibkpmcceaaaGreatDoorZMNp
import Derived.Test.YtfbpibkpmcceaaaGreatDoorZMNo
import Derived.Test.YtfbpibkpmcceaaaGreatDoorZNPa
import Derived.Test.YtfbpibkpmcceaaaGreatDoorZMLt
set_option linter.unusedVariables false
set_option linter.unusedSimpArgs false
set_option maxRecDepth 100000
set_option maxHeartbeats 32000000
namespace Go.Proofs.YtfbpibkpmcceaaaGreatDoor
open Go.RowKit
structure Qf where
 d : Nat
 k : Nat
 jW : Nat
 v : AV
 o : AV
def Qf.up (q : Qf) : Qf:=⟨q.d + 1,q.k,q.jW,q.v,q.o⟩
def wkC (p : List It) (q : Qf) (n : Nat) : AObj:=.cells [.p (.sl 16 (p.map It.enc)),.rsl q.k 2 n 2,q.v,q.o] 78
structure QAt (p : List It) (S : ASt) (q : Qf) (fl : List Flt) : Prop where
 w : get2 S q.d q.jW = some (wkC p q fl.length)
 r : get2 S (q.k + q.d) 2 = some (rwO fl)
 ne : q.k = 0 → q.jW ≠ 2
def updQ (p : List It) (S : ASt) (q : Qf) (fl : List Flt) : ASt:=set2 (set2 S (q.k + q.d) 2 (rwO fl)) q.d q.jW (wkC p q fl.length)
theorem updQ_get {p : List It} {S : ASt} {q : Qf} {fl : List Flt} (h : QAt p S q fl) (fl' : List Flt) (d i : Nat) : get2 (updQ p S q fl') d i = if d = q.d ∧ i = q.jW then some (wkC p q fl'.length) else if d = q.k + q.d ∧ i = 2 then some (rwO fl') else get2 S d i:=by
 have hn:=h.ne
 unfold updQ
 have h3 : get2 (set2 S (q.k + q.d) 2 (rwO fl')) q.d q.jW = some (wkC p q fl.length):=by rw [get2_set _ h.r,if_neg (by omega)]; exact h.w
 rw [get2_set _ h3,get2_set _ h.r]
theorem updQ_map (p : List It) (S : ASt) (q : Qf) (fl : List Flt) : (updQ p S q fl).map List.length = S.map List.length:=by unfold updQ; rw [set_map,set_map]
theorem QAt.updQ {p : List It} {S : ASt} {q : Qf} {fl : List Flt} (h : QAt p S q fl) (fl' : List Flt) : QAt p (updQ p S q fl') q fl':=by
 have hn:=h.ne
 refine ⟨?_,?_,h.ne⟩
 ·rw [updQ_get h,if_pos ⟨rfl,rfl⟩]
 ·rw [updQ_get h,if_neg (by omega),if_pos ⟨rfl,rfl⟩]
theorem updQ_updQ {p : List It} {S : ASt} {q : Qf} {fl : List Flt} (h : QAt p S q fl) (a b : List Flt) : updQ p (updQ p S q a) q b = updQ p S q b:=by
 refine st_ext (by rw [updQ_map,updQ_map,updQ_map]) fun d i=>?_
 rw [updQ_get (h.updQ a),updQ_get h,updQ_get h]
 repeat' (first | rfl | split)
theorem updQ_self {p : List It} {S : ASt} {q : Qf} {fl : List Flt} (h : QAt p S q fl) : updQ p S q fl = S:=by
 refine st_ext (updQ_map p S q fl) fun d i=>?_
 rw [updQ_get h]
 split
 ·rename_i hc; rw [hc.1,hc.2,h.w]
 split
 ·rename_i hc; rw [hc.1,hc.2,h.r]
 rfl
theorem QAt.cons {p : List It} {S : ASt} {q : Qf} {fl : List Flt} (h : QAt p S q fl) (L : List AObj) : QAt p (L :: S) q.up fl:=⟨h.w,h.r,h.ne⟩
theorem updQ_cons (p : List It) (L : List AObj) (S : ASt) (q : Qf) (fl : List Flt) : updQ p (L :: S) q.up fl = L :: updQ p S q fl:=by
 unfold updQ
 show set2 (set2 (L :: S) (q.k + q.d + 1) 2 _) (q.d + 1) q.jW (wkC p q fl.length) = _
 rw [set2_suc,set2_suc]
def QC (p : List It) (F : Nat) (args : List AV) (l l' : List Flt) : Prop:=∀ (S : ASt) (q : Qf),QAt p S q l → ADet Tryz.prog F (.ptr q.d q.jW 0 :: args) S .un (updQ p S q l')
theorem QC.at {p : List It} {F : Nat} {args : List AV} {l l1 l2 : List Flt} (hw : QC p F args l1 l2) {S : ASt} {q : Qf} (h : QAt p S q l) (L : List AObj) : ADet Tryz.prog F (.ptr (q.d + 1) q.jW 0 :: args) (L :: updQ p S q l1) .un (L :: updQ p S q l2):=by
 have:=hw _ q.up ((h.updQ l1).cons L)
 rw [updQ_cons,updQ_updQ h] at this
 exact this
theorem QC.at0 {p : List It} {F : Nat} {args : List AV} {l1 l2 : List Flt} (hw : QC p F args l1 l2) {S : ASt} {q : Qf} (h : QAt p S q l1) (L : List AObj) : ADet Tryz.prog F (.ptr (q.d + 1) q.jW 0 :: args) (L :: S) .un (L :: updQ p S q l2):=by
 have:=hw.at h L
 rw [updQ_self h] at this
 exact this
def vrE (e : Fg) : List PV:=[pS e.1,.v (.bool e.2)]
def rvO (v : List Fg) : AObj:=.row 117 2 v.length (rowC vrE v)
structure Wg where
 d : Nat
 k : Nat
 jW : Nat
 jV : Nat
def Wg.up (c : Wg) : Wg:=⟨c.d + 1,c.k,c.jW,c.jV⟩
def Wg.q (c : Wg) (w : Wf) : Qf:=⟨c.d,c.k,c.jW,.rsl 0 c.jV w.vars.length 2,I w.opn⟩
structure WAt (p : List It) (S : ASt) (c : Wg) (w : Wf) : Prop where
 q : QAt p S (c.q w) w.fl
 v : get2 S c.d c.jV = some (rvO w.vars)
 ne : c.jV ≠ c.jW
 jv : c.k = 0 → c.jV ≠ 2
def updW (p : List It) (S : ASt) (c : Wg) (w : Wf) : ASt:=set2 (updQ p S (c.q w) w.fl) c.d c.jV (rvO w.vars)
theorem updW_get {p : List It} {S : ASt} {c : Wg} {w : Wf} (h : WAt p S c w) (u : Wf) (d i : Nat) : get2 (updW p S c u) d i = if d = c.d ∧ i = c.jV then some (rvO u.vars) else if d = c.d ∧ i = c.jW then some (wkC p (c.q u) u.fl.length) else if d = c.k + c.d ∧ i = 2 then some (rwO u.fl) else get2 S d i:=by
 have hn:=h.ne
 have hj:=h.jv
 have hq:=h.q.ne
 have hr : get2 S (c.k + c.d) 2 = some (rwO w.fl):=h.q.r
 have h1 : get2 (set2 S (c.k + c.d) 2 (rwO u.fl)) c.d c.jW = some (wkC p (c.q w) w.fl.length):=by
  rw [get2_set _ hr,if_neg (fun e=>hq (by show c.k = 0; omega) e.2)]; exact h.q.w
 have e1 : ∀ d i,get2 (updQ p S (c.q u) u.fl) d i = if d = c.d ∧ i = c.jW then some (wkC p (c.q u) u.fl.length) else if d = c.k + c.d ∧ i = 2 then some (rwO u.fl) else get2 S d i:=fun d i=>by
  show get2 (set2 (set2 S (c.k + c.d) 2 (rwO u.fl)) c.d c.jW (wkC p (c.q u) u.fl.length)) d i = _
  rw [get2_set _ h1,get2_set _ hr]
 have h2 : get2 (updQ p S (c.q u) u.fl) c.d c.jV = some (rvO w.vars):=by
  rw [e1,if_neg (by omega),if_neg (by omega)]; exact h.v
 unfold updW
 rw [get2_set _ h2,e1]
theorem updW_map (p : List It) (S : ASt) (c : Wg) (w : Wf) : (updW p S c w).map List.length = S.map List.length:=by unfold updW; rw [set_map,updQ_map]
theorem WAt.updW {p : List It} {S : ASt} {c : Wg} {w : Wf} (h : WAt p S c w) (u : Wf) : WAt p (updW p S c u) c u:=by
 have hn:=h.ne
 have hj:=h.jv
 have hq : c.k = 0 → c.jW ≠ 2:=h.q.ne
 refine ⟨⟨?_,?_,h.q.ne⟩,?_,h.ne,h.jv⟩
 ·show get2 _ c.d c.jW = _
  rw [updW_get h,if_neg (by omega),if_pos ⟨rfl,rfl⟩]
 ·show get2 _ (c.k + c.d) 2 = _
  rw [updW_get h,if_neg (by omega),if_neg (by omega),if_pos ⟨rfl,rfl⟩]
 ·rw [updW_get h,if_pos ⟨rfl,rfl⟩]
theorem updW_updW {p : List It} {S : ASt} {c : Wg} {w : Wf} (h : WAt p S c w) (a b : Wf) : updW p (updW p S c a) c b = updW p S c b:=by
 refine st_ext (by rw [updW_map,updW_map,updW_map]) fun d i=>?_
 rw [updW_get (h.updW a),updW_get h,updW_get h]
 repeat' (first | rfl | split)
theorem updW_self {p : List It} {S : ASt} {c : Wg} {w : Wf} (h : WAt p S c w) : updW p S c w = S:=by
 refine st_ext (updW_map p S c w) fun d i=>?_
 rw [updW_get h]
 split
 ·rename_i hc; rw [hc.1,hc.2,h.v]
 split
 ·rename_i hc; rw [hc.1,hc.2]; exact h.q.w.symm
 split
 ·rename_i hc; rw [hc.1,hc.2]; exact h.q.r.symm
 rfl
theorem WAt.cons {p : List It} {S : ASt} {c : Wg} {w : Wf} (h : WAt p S c w) (L : List AObj) : WAt p (L :: S) c.up w:=⟨h.q.cons L,h.v,h.ne,h.jv⟩
theorem updW_cons (p : List It) (L : List AObj) (S : ASt) (c : Wg) (w : Wf) : updW p (L :: S) c.up w = L :: updW p S c w:=by
 unfold updW
 show set2 (updQ p (L :: S) (c.q w).up w.fl) (c.d + 1) c.jV _ = _
 rw [updQ_cons,set2_suc]
theorem updW_fl {p : List It} {S : ASt} {c : Wg} {w : Wf} (h : WAt p S c w) (fl : List Flt) : updQ p S (c.q w) fl = updW p S c ⟨w.vars,w.opn,fl⟩:=by
 have hn:=h.ne
 refine st_ext (by rw [updQ_map,updW_map]) fun d i=>?_
 rw [updW_get h,updQ_get h.q]
 split
 ·rename_i h3
  have h4 : d = c.d ∧ i = c.jW:=h3
  rw [if_neg (by omega),if_pos h4]
  rfl
 ·rename_i h3
  have h4 : ¬ (d = c.d ∧ i = c.jW):=h3
  split
  ·rename_i h5
   have h6 : d = c.k + c.d ∧ i = 2:=h5
   have hj:=h.jv
   rw [if_neg (by omega),if_pos h6]
  ·rename_i h5
   have h6 : ¬ (d = c.k + c.d ∧ i = 2):=h5
   by_cases h7 : d = c.d ∧ i = c.jV
   ·rw [if_pos h7,h7.1,h7.2]; exact h.v
   ·rw [if_neg h7,if_neg h6]
def WC (p : List It) (F : Nat) (args : List AV) (w u : Wf) : Prop:=∀ (S : ASt) (c : Wg),WAt p S c w → ADet Tryz.prog F (.ptr c.d c.jW 0 :: args) S .un (updW p S c u)
theorem WC.at {p : List It} {F : Nat} {args : List AV} {w w1 w2 : Wf} (hw : WC p F args w1 w2) {S : ASt} {c : Wg} (h : WAt p S c w) (L : List AObj) : ADet Tryz.prog F (.ptr (c.d + 1) c.jW 0 :: args) (L :: updW p S c w1) .un (L :: updW p S c w2):=by
 have:=hw _ c.up ((h.updW w1).cons L)
 rw [updW_cons,updW_updW h] at this
 exact this
theorem WC.at0 {p : List It} {F : Nat} {args : List AV} {w1 w2 : Wf} (hw : WC p F args w1 w2) {S : ASt} {c : Wg} (h : WAt p S c w1) (L : List AObj) : ADet Tryz.prog F (.ptr (c.d + 1) c.jW 0 :: args) (L :: S) .un (L :: updW p S c w2):=by
 have:=hw.at h L
 rw [updW_self h] at this
 exact this
theorem QC.inW {p : List It} {F : Nat} {args : List AV} {w : Wf} {l2 : List Flt} (hw : QC p F args w.fl l2) : WC p F args w ⟨w.vars,w.opn,l2⟩:=fun S c h=>by
 rw [← updW_fl h]
 exact hw S (c.q w) h.q
end Go.Proofs.YtfbpibkpmcceaaaGreatDoor
namespace Go.Proofs.YtfbpibkpmcceaaaGreatDoor
open Go.RowKit
attribute [local simp] List.replicate List.range List.range.loop resA resOne retA AV.cuts AV.cut AObj.cut trim wkR wkT wkL wkN wkNR wkNL wkM wkMR wkML
theorem wrongQ (p : List It) (e a : Int) (l : List Flt) (hl : l.length + 1 ≤ 4294967296) : QC p 37 [I e,I a] l (l ++ [(e,a)]):=fun S q h=>by
 have ho:=h.w
 have ht:=h.r
 have hn:=h.ne
 have n1 : ∀ o,get2 (set2 S (q.k + q.d) 2 o) q.d q.jW = some (wkC p q l.length):=fun o=>by
  rw [get2_set _ ht,if_neg (by omega)]; exact ho
 simp only [wkC,rwO] at ho ht n1
 have g2 : ∀ L : List AObj,get2 (L :: S) (q.k + (q.d + 1)) 2 = some (.row 32 2 l.length (rowC fltE l)):=fun L=>ht
 have s2 : ∀ (L : List AObj) o,set2 (L :: S) (q.k + (q.d + 1)) 2 o = L :: set2 S (q.k + q.d) 2 o:=fun L o=>set2_suc L S (q.k + q.d) 2 o
 refine ADet.intro mixed Tryz.call37 Tryz.func37 rfl ?_
 simp [Tryz.ntmps37,ho,ht,hl,g2,s2,n1,updQ,wkC,rwO,rowC,fltE]
def hitN (fn : Bool) (s : ByteArray) (y : It) : Bool:=(decide (y.kind = 3) == fn) && sEq y.name s
def ixV (o : Option Nat) : Int:=match o with | some i=>(i : Int) | none=>-1
theorem findIx_none {p : List It} {fn : Bool} {s : ByteArray} (h : ∀ i (hi : i < p.length),hitN fn s p[i] = false) : findIx p fn s = none:=by
 unfold findIx
 rw [List.findIdx?_eq_none_iff]
 intro x hx
 obtain ⟨i,hi,rfl⟩:=List.mem_iff_getElem.1 hx
 exact h i hi
theorem findIx_some {p : List It} {fn : Bool} {s : ByteArray} {q : Nat} (h : ∀ i (hi : i < p.length),i < q → hitN fn s p[i] = false) (hq : q < p.length) (hh : hitN fn s p[q] = true) : findIx p fn s = some q:=by
 unfold findIx
 rw [List.findIdx?_eq_some_iff_getElem]
 exact ⟨hq,hh,fun j hj=>by have:=h j (by omega) hj; unfold hitN at this; simp [this]⟩
theorem findC (p : List It) (hp : p.length ≤ 20000) (fn : Bool) (s : ByteArray) (S : ASt) : ADet Tryz.prog 36 [.agg [.p (prog p)],U (if fn = true then 3 else 0),Sg s] S (I (ixV (findIx p fn s))) S:=by
 have hlen : p.length ≤ maxLen:=by unfold maxLen; omega
 obtain ⟨k,hk⟩ : ∃ k : Int,k = if fn = true then 3 else 0:=⟨_,rfl⟩
 rw [← hk]
 refine ADet.intro mixed Tryz.call36 Tryz.func36 rfl ?_
 simp [Tryz.ntmps36,prog]
 refine awp_loop (fun q : Nat=>q ≤ p.length ∧ ∀ i (hi : i < p.length),i < q → hitN fn s p[i] = false) (fun q=>([.any,U k,Sg s,.ptr 0 0 0,.any,.any,.any,I q] ++ List.replicate 33 .any)) (fun q=>[.cells [.p (.sl 16 (p.map It.enc))] 24] :: S) (fun q=>p.length - q) 0 ⟨Nat.zero_le _,fun i hi h=>by omega⟩ ?_ ?_ ?_
 ·simp
 ·simp
 rintro q ⟨hq,hall⟩
 by_cases hlt : q < p.length
 ·have hlt' : (q : Int) < (p.length : Int):=by omega
  have hw:=wrap_succ hlt
  have hmu : p.length - (q + 1) < p.length - q:=by omega
  have hsome:=findIx_some hall hlt
  have hnext : hitN fn s p[q] = false → ∀ i (hi : i < p.length),i < q + 1 → hitN fn s p[i] = false:=fun h0 i hi h=>by
   rcases Nat.lt_or_ge i q with h' | h'
   ·exact hall i hi h'
   ·obtain rfl : i = q:=by omega
    exact h0
  generalize hx : p[q] = x at *
  cases hs : sEq x.name s with
  | false =>
   have h0 : hitN fn s x = false:=by unfold hitN; rw [hs]; simp
   simp [hlt,hlt',hx,It.enc,hs]
   exact ⟨q + 1,⟨hlt,hnext h0⟩,hmu,hw⟩
  | true =>
   cases fn with
   | true =>
    have hk : k = 3:=hk
    subst hk
    by_cases h3 : x.kind = 3
    ·have h0 : hitN true s x = true:=by unfold hitN; rw [hs,h3]; rfl
     rw [hsome h0]
     simp [hlt,hlt',hx,It.enc,hs,h3,ixV]
    ·have h3b : (x.kind == 3) = false:=by simpa using h3
     have h0 : hitN true s x = false:=by unfold hitN; rw [hs]; simp [h3]
     simp [hlt,hlt',hx,It.enc,hs,h3,h3b]
     exact ⟨q + 1,⟨hlt,hnext h0⟩,hmu,hw⟩
   | false =>
    have hk : k = 0:=hk
    subst hk
    by_cases h3 : x.kind = 3
    ·have h0 : hitN false s x = false:=by unfold hitN; rw [hs,h3]; rfl
     simp [hlt,hlt',hx,It.enc,hs,h3]
     exact ⟨q + 1,⟨hlt,hnext h0⟩,hmu,hw⟩
    ·have h3b : (x.kind != 3) = true:=by simpa using h3
     have h0 : hitN false s x = true:=by unfold hitN; rw [hs]; simp [h3]
     rw [hsome h0]
     by_cases hz : x.kind = 0
     ·simp [hlt,hlt',hx,It.enc,hs,hz,ixV]
     ·have hzb : (x.kind == 0) = false:=by simpa using hz
      simp [hlt,hlt',hx,It.enc,hs,h3,h3b,hz,hzb,ixV]
 ·have hlt' : ¬ (q : Int) < (p.length : Int):=by omega
  have hn:=findIx_none (fun i hi=>hall i hi (by omega))
  rw [hn]
  simp [hlt',ixV]
theorem find_ix {p : List It} {s : ByteArray} : (findIx p false s = none ∧ firstIt p s = none) ∨ ∃ i,∃ h : i < p.length,findIx p false s = some i ∧ firstIt p s = some p[i]:=by
 have e : ∀ y : It,((decide (y.kind = 3) == false) && sEq y.name s) = (decide (y.kind ≠ 3) && sEq y.name s):=fun y=>by by_cases h : y.kind = 3 <;> simp [h]
 unfold findIx firstIt
 simp only [e]
 induction p with
 | nil=>exact .inl ⟨rfl,rfl⟩
 | cons x p ih =>
  rw [List.findIdx?_cons,List.find?_cons]
  cases hx : (decide (x.kind ≠ 3) && sEq x.name s) with
  | true=>exact .inr ⟨0,by simp,by simp,rfl⟩
  | false =>
   simp only [Bool.false_eq_true,if_false]
   rcases ih with ⟨h1,h2⟩ | ⟨i,hi,h1,h2⟩
   ·exact .inl ⟨by rw [h1]; rfl,h2⟩
   ·exact .inr ⟨i + 1,by simp; omega,by rw [h1]; rfl,by rw [h2]; rfl⟩
theorem find_fx {p : List It} {s : ByteArray} : (findIx p true s = none ∧ fnIt p s = none) ∨ ∃ i,∃ h : i < p.length,findIx p true s = some i ∧ fnIt p s = some p[i]:=by
 have e : ∀ y : It,((decide (y.kind = 3) == true) && sEq y.name s) = (decide (y.kind = 3) && sEq y.name s):=fun y=>by by_cases h : y.kind = 3 <;> simp [h]
 unfold findIx fnIt
 simp only [e]
 induction p with
 | nil=>exact .inl ⟨rfl,rfl⟩
 | cons x p ih =>
  rw [List.findIdx?_cons,List.find?_cons]
  cases hx : (decide (x.kind = 3) && sEq x.name s) with
  | true=>exact .inr ⟨0,by simp,by simp,rfl⟩
  | false =>
   simp only [Bool.false_eq_true,if_false]
   rcases ih with ⟨h1,h2⟩ | ⟨i,hi,h1,h2⟩
   ·exact .inl ⟨by rw [h1]; rfl,h2⟩
   ·exact .inr ⟨i + 1,by simp; omega,by rw [h1]; rfl,by rw [h2]; rfl⟩
def kindV (p : List It) (k : Int) (s : ByteArray) : AV:=match itemK p k s with | some x=>.tup [itV x,B true] | none=>.tup [itZ1,B false]
theorem firstC (p : List It) (hp : p.length ≤ 20000) (k : Int) (s : ByteArray) (S : ASt) : ADet Tryz.prog 154 [.agg [.p (prog p)],U k,Sg s] S (kindV p k s) S:=by
 have hfc:=fun S=>findC p hp false s S
 simp only [Bool.false_eq_true,if_false] at hfc
 unfold kindV itemK
 refine ADet.intro mixed Tryz.call154 Tryz.func154 rfl ?_
 simp [Tryz.ntmps154]
 rcases @find_ix p s with ⟨h1,h2⟩ | ⟨i,hi,h1,h2⟩
 ·rw [h1] at hfc
  rw [h2]
  refine ⟨_,_,hfc _,?_⟩
  simp [ixV]
 ·rw [h1] at hfc
  rw [h2]
  have hi' : (i : Int) < (p.length : Int):=by omega
  have hneg : ¬ ((i : Int) < 0):=by omega
  generalize hx : p[i] = x at *
  refine ⟨_,_,hfc _,?_⟩
  by_cases hk : x.kind = k
  ·simp [ixV,prog,hneg,hi,hi',hx,It.enc,hk]
  ·have hkb : (x.kind != k) = true:=by simpa using hk
   simp [ixV,prog,hneg,hi,hi',hx,It.enc,hk,hkb]
theorem payloadC (x : It) (s : ByteArray) (S : ASt) : ADet Tryz.prog 158 [itV x,Sg s] S (I (payR x.fields s)) S:=by
 refine ADet.okA Tryz.call158 0 2 rfl rfl fun hok=>?_
 have hlen:=okl hok
 refine ADet.intro mixed Tryz.call158 Tryz.func158 rfl ?_
 simp [Tryz.ntmps158]
 refine awp_loop (fun q : Nat=>q ≤ x.fields.length ∧ ∀ i (hi : i < x.fields.length),i < q → sEq x.fields[i].name s = false) (fun q=>([.any,Sg s,.ptr 0 0 0,.any,.any,I q] ++ List.replicate 23 .any)) (fun q=>[.cells (itU x) 47] :: S) (fun q=>x.fields.length - q) 0 ⟨Nat.zero_le _,fun i hi h=>by omega⟩ ?_ ?_ ?_
 ·simp
 ·simp
 rintro q ⟨hq,hall⟩
 by_cases hlt : q < x.fields.length
 ·have hlt' : (q : Int) < (x.fields.length : Int):=by omega
  have hw:=wrap_succ hlt
  have hs:=variant_some hall hlt
  generalize hf : x.fields[q] = f at *
  cases hp : sEq f.name s with
  | true =>
   have hs:=hs hp
   by_cases hz : f.type.kind = 0
   ·simp [hlt,hlt',hf,Fi.enc,hp,hz,payR,hs]
   ·have hz' : (f.type.kind == 0) = false:=by simpa using hz
    simp [hlt,hlt',hf,Fi.enc,hp,hz,hz',payR,hs]
  | false =>
   simp [hlt,hlt',hf,Fi.enc,hp]
   exact ⟨q + 1,⟨hlt,fun i hi h=>by
    rcases Nat.lt_or_ge i q with h' | h'
    ·exact hall i hi h'
    ·obtain rfl : i = q:=by omega
     rw [hf]; exact hp⟩,by omega,hw⟩
 ·have hlt' : ¬ (q : Int) < (x.fields.length : Int):=by omega
  have hs:=variant_none fun i hi=>hall i hi (by omega)
  simp [hlt',payR,hs]
end Go.Proofs.YtfbpibkpmcceaaaGreatDoor
namespace Go.Proofs.YtfbpibkpmcceaaaGreatDoor
open Go.RowKit
attribute [local simp] List.replicate List.range List.range.loop resA resOne retA AV.cuts AV.cut AObj.cut trim wkR wkT wkL wkN wkNR wkNL wkM wkMR wkML virtL virtO virt_get markL markO markR_get rowA awpI_nil awpI_cons List.forall_mem_cons List.contains_cons List.contains_nil List.find? nextD_eq awpD_nil awpD_cons LCp LCl refL
theorem findIx_first (p : List It) (s : ByteArray) : (findIx p false s = none ∧ firstIt p s = none) ∨ ∃ i,findIx p false s = some i ∧ ∃ x,firstIt p s = some x:=by
 have e : ∀ y : It,((decide (y.kind = 3) == false) && sEq y.name s) = (decide (y.kind ≠ 3) && sEq y.name s):=fun y=>by by_cases h : y.kind = 3 <;> simp [h]
 unfold findIx firstIt
 simp only [e]
 induction p with
 | nil=>exact .inl ⟨rfl,rfl⟩
 | cons x p ih =>
  rw [List.findIdx?_cons,List.find?_cons]
  cases hx : (decide (x.kind ≠ 3) && sEq x.name s) with
  | true=>exact .inr ⟨0,by simp,x,rfl⟩
  | false =>
   simp only [Bool.false_eq_true,if_false]
   rcases ih with ⟨h1,h2⟩ | ⟨i,h1,h2⟩
   ·exact .inl ⟨by rw [h1]; rfl,h2⟩
   ·exact .inr ⟨i + 1,by rw [h1]; rfl,h2⟩
theorem kindQ (p : List It) (hp : p.length ≤ 20000) (pos : Int) : ∀ (t : Ty) (l : List Flt),l.length + t.nd ≤ 4000000000 → QC p 65 [tyV t,I pos] l (l ++ t.nm p pos):=by
 refine Ty.ind fun t ih l hl=>fun S q h=>?_
 refine ADet.okA Tryz.call65 1 2 rfl rfl fun hok=>?_
 have hlen:=okl hok
 have hnd:=tyNd t
 obtain ⟨W,hW⟩ : ∃ W,W = l ++ (if t.kind = 4 then wrongL (firstIt p t.name).isSome 60 pos else []):=⟨_,rfl⟩
 obtain ⟨F,hF⟩ : ∃ F : Nat → List Flt,F = fun q=>W ++ (t.args.take q).flatMap (Ty.nm p pos):=⟨_,rfl⟩
 have hF0 : F 0 = W:=by rw [hF]; simp
 have hFn : F t.args.length = l ++ t.nm p pos:=by rw [hF,hW,tyNm]; simp
 have hFs : ∀ q (h : q < t.args.length),F (q + 1) = F q ++ t.args[q].nm p pos:=fun q h=>by rw [hF]; simp only [List.take_succ_eq_append_getElem h,List.flatMap_append,List.append_assoc]; simp
 have hWl : W.length ≤ l.length + 1:=by
  rw [hW,List.length_append]
  have : (if t.kind = 4 then wrongL (firstIt p t.name).isSome 60 pos else []).length ≤ 1:=by
   split
   ·exact wrongN_len _ _ _
   ·simp
  omega
 have hFb : ∀ q (h : q < t.args.length),(F q).length + t.args[q].nd ≤ 4000000000:=fun q h=>by
  have e1:=sum_mem Ty.nd h
  have e2:=flatN_le (Ty.nm p pos) Ty.nd (t.args.take q) fun x _=>tyNm_len p pos x
  rw [hF]
  simp only [List.length_append]
  omega
 clear hF
 rw [← hFn]
 have ho:=h.w
 simp only [wkC] at ho
 have hself:=updQ_self h
 have hfc:=fun S=>findC p hp false t.name S
 simp only [Bool.false_eq_true,if_false] at hfc
 have hwr:=fun L=>(wrongQ p 60 pos l (by omega)).at0 h L
 refine ADet.intro mixed Tryz.call65 Tryz.func65 rfl ?_
 simp [Tryz.ntmps65]
 refine awp_draw [] (by kernel_rfl) (by kernel_rfl) ?_
 by_cases h4 : t.kind = 4
 ·rcases findIx_first p t.name with ⟨h1,h2⟩ | ⟨i,h1,x,h2⟩
  ·have hW1 : W = l ++ [(60,pos)]:=by rw [hW,if_pos h4,h2]; rfl
   rw [h1] at hfc
   simp [h4,ho]
   refine ⟨_,_,hfc _,?_⟩
   simp [h4,ixV]
   refine ⟨_,_,hwr _,?_⟩
   simp
   refine awp_loop (fun i : Nat=>i ≤ t.args.length) (fun i=>([.ptr (q.d + 1) q.jW 0,.any,I pos,.any,.ptr 0 0 0,.any,I i] ++ List.replicate 31 .any)) (fun i=>[.cells [U t.kind,Sg t.name,.p (.sl 3 (t.args.map Ty.enc))] 38] :: updQ p S q (F i)) (fun i=>t.args.length - i) 0 (Nat.zero_le _) ?_ ?_ ?_
   ·simp
   ·simp [hF0,hW1,hself,h4]
   intro i hi
   by_cases hlt : i < t.args.length
   ·have hlt' : (i : Int) < (t.args.length : Int):=by omega
    have hw:=wrap_succ hlt
    have hF1:=hFs i hlt
    have hmu : t.args.length - (i + 1) < t.args.length - i:=by omega
    have hx:=fun L=>(ih _ (List.getElem_mem hlt) (F i) (hFb i hlt)).at h L
    rw [← hF1] at hx
    generalize he : t.args[i] = e at *
    simp [hlt,hlt',he,tyEnc]
    refine ⟨_,_,hx _,?_⟩
    simp
    exact ⟨i + 1,hlt,hmu,hw,rfl⟩
   have hlt' : ¬ (i : Int) < (t.args.length : Int):=by omega
   have hi2 : i = t.args.length:=by omega
   subst hi2
   simp
  ·have hW1 : W = l:=by rw [hW,if_pos h4,h2]; simp [wrongL]
   rw [h1] at hfc
   have hneg : ¬ ((i : Int) < 0):=by omega
   simp [h4,ho]
   refine ⟨_,_,hfc _,?_⟩
   simp [h4,ixV,hneg]
   refine awp_loop (fun i : Nat=>i ≤ t.args.length) (fun i=>([.ptr (q.d + 1) q.jW 0,.any,I pos,.any,.ptr 0 0 0,.any,I i] ++ List.replicate 31 .any)) (fun i=>[.cells [U t.kind,Sg t.name,.p (.sl 3 (t.args.map Ty.enc))] 38] :: updQ p S q (F i)) (fun i=>t.args.length - i) 0 (Nat.zero_le _) ?_ ?_ ?_
   ·simp
   ·simp [hF0,hW1,hself,h4]
   intro i hi
   by_cases hlt : i < t.args.length
   ·have hlt' : (i : Int) < (t.args.length : Int):=by omega
    have hw:=wrap_succ hlt
    have hF1:=hFs i hlt
    have hmu : t.args.length - (i + 1) < t.args.length - i:=by omega
    have hx:=fun L=>(ih _ (List.getElem_mem hlt) (F i) (hFb i hlt)).at h L
    rw [← hF1] at hx
    generalize he : t.args[i] = e at *
    simp [hlt,hlt',he,tyEnc]
    refine ⟨_,_,hx _,?_⟩
    simp
    exact ⟨i + 1,hlt,hmu,hw,rfl⟩
   have hlt' : ¬ (i : Int) < (t.args.length : Int):=by omega
   have hi2 : i = t.args.length:=by omega
   subst hi2
   simp
 ·have h4b : (t.kind == 4) = false:=by simpa using h4
  have hW1 : W = l:=by rw [hW,if_neg h4]; simp
  simp [h4,h4b,ho]
  refine awp_loop (fun i : Nat=>i ≤ t.args.length) (fun i=>([.ptr (q.d + 1) q.jW 0,.any,I pos,.any,.ptr 0 0 0,.any,I i] ++ List.replicate 31 .any)) (fun i=>[.cells [U t.kind,Sg t.name,.p (.sl 3 (t.args.map Ty.enc))] 38] :: updQ p S q (F i)) (fun i=>t.args.length - i) 0 (Nat.zero_le _) ?_ ?_ ?_
  ·simp
  ·simp [hF0,hW1,hself]
  intro i hi
  by_cases hlt : i < t.args.length
  ·have hlt' : (i : Int) < (t.args.length : Int):=by omega
   have hw:=wrap_succ hlt
   have hF1:=hFs i hlt
   have hmu : t.args.length - (i + 1) < t.args.length - i:=by omega
   have hx:=fun L=>(ih _ (List.getElem_mem hlt) (F i) (hFb i hlt)).at h L
   rw [← hF1] at hx
   generalize he : t.args[i] = e at *
   simp [hlt,hlt',he,tyEnc]
   refine ⟨_,_,hx _,?_⟩
   simp
   exact ⟨i + 1,hlt,hmu,hw,rfl⟩
  have hlt' : ¬ (i : Int) < (t.args.length : Int):=by omega
  have hi2 : i = t.args.length:=by omega
  subst hi2
  simp
theorem fieldsR_app (p : List It) (pos : Int) : ∀ (a b : List Fi) (met : List ByteArray),fieldsR p pos met (a ++ b) = fieldsR p pos met a ++ fieldsR p pos (met ++ a.map Fi.name) b
 | [],b,met=>by simp [fieldsR]
 | f :: a,b,met=>by simp [fieldsR,fieldsR_app p pos a b,List.append_assoc]
theorem fieldsR_len (p : List It) (pos : Int) : ∀ (l : List Fi) (met : List ByteArray),(fieldsR p pos met l).length ≤ (l.map Fi.nd).sum
 | [],met=>Nat.le_refl _
 | f :: l,met=>by
  have h1:=wrongN_len (!met.any fun x=>sEq x f.name) 60 pos
  have h2:=tyNm_len p pos f.type
  have h3:=fieldsR_len p pos l (met ++ [f.name])
  simp only [fieldsR,List.length_append,List.map_cons,List.sum_cons,Fi.nd]
  omega
theorem litR_iff : ∀ (l : List Fi) (s : List ByteArray),l.length = s.length → (litB l s = true ↔ ∀ i (h : i < l.length) (h2 : i < s.length),sEq l[i].name s[i] = true)
 | [],[],_=>by simp [litB]
 | f :: l,x :: s,h=>by
  rw [litB,Bool.and_eq_true,litR_iff l s (by simpa using h)]
  constructor
  ·rintro ⟨h1,h2⟩ i hi hj
   cases i with
   | zero=>exact h1
   | succ i=>exact h2 i (by simpa using hi) (by simpa using hj)
  ·intro h1
   exact ⟨h1 0 (by simp) (by simp),fun i hi hj=>h1 (i + 1) (by simpa using hi) (by simpa using hj)⟩
theorem literalC (x : It) (e : Ex) (hpath : e.place.path.length = e.args.length) (S : ASt) : ADet Tryz.prog 157 [itV x,exV e] S (B (decide (x.fields.length = e.args.length) && litB x.fields e.place.path)) S:=by
 refine ADet.okA Tryz.call157 0 2 rfl rfl fun hok=>?_
 have hlen:=okl hok
 refine ADet.intro mixed Tryz.call157 Tryz.func157 rfl ?_
 by_cases hle : x.fields.length = e.args.length
 ·have hli:=litR_iff x.fields e.place.path (by omega)
  have hleb : ((x.fields.length : Int) != (e.args.length : Int)) = false:=by rw [hle]; simp
  have hd : decide (x.fields.length = e.args.length) = true:=decide_eq_true hle
  rw [hd,Bool.true_and]
  simp [Tryz.ntmps157,hleb]
  refine awp_loop (fun q : Nat=>q ≤ x.fields.length ∧ ∀ i (h : i < x.fields.length) (h2 : i < e.place.path.length),i < q → sEq x.fields[i].name e.place.path[i] = true) (fun q=>([.any,.any,.ptr 0 0 0,.ptr 0 1 0,.any,I q] ++ List.replicate 27 .any)) (fun q=>[.cells (itU x) 47,.cells [U e.op,I e.int,Sg e.name,Sg e.second,Sg e.place.name,.p (strs e.place.path),.p (.sl 8 (e.args.map Ex.enc)),I e.pos] 45] :: S) (fun q=>x.fields.length - q) 0 ⟨Nat.zero_le _,fun i hi h h2=>by omega⟩ ?_ ?_ ?_
  ·simp
  ·simp
  rintro q ⟨hq,hall⟩
  by_cases hlt : q < x.fields.length
  ·have hlt' : (q : Int) < (x.fields.length : Int):=by omega
   have hlp : q < e.place.path.length:=by omega
   have hw:=wrap_succ hlt
   have hmu : x.fields.length - (q + 1) < x.fields.length - q:=by omega
   have hnext : sEq x.fields[q].name e.place.path[q] = true → ∀ i (h : i < x.fields.length) (h2 : i < e.place.path.length),i < q + 1 → sEq x.fields[i].name e.place.path[i] = true:=fun h0 i h h2 h3=>by
    rcases Nat.lt_or_ge i q with h' | h'
    ·exact hall i h h2 h'
    ·obtain rfl : i = q:=by omega
     exact h0
   have hno : sEq x.fields[q].name e.place.path[q] = false → litB x.fields e.place.path = false:=fun h0=>by
    rw [Bool.eq_false_iff]
    intro h1
    rw [hli.1 h1 q hlt hlp] at h0
    cases h0
   generalize hf : x.fields[q] = f at *
   generalize hs : e.place.path[q] = s at *
   cases he : sEq f.name s with
   | true =>
    simp [hlt,hlt']
    refine awp_draw [] (by kernel_rfl) (by kernel_rfl) ?_
    simp [hlt,hlp,hf,Fi.enc,strs,hs,he]
    exact ⟨q + 1,⟨hlt,hnext he⟩,hmu,hw⟩
   | false =>
    have:=hno he
    simp [hlt,hlt']
    refine awp_draw [] (by kernel_rfl) (by kernel_rfl) ?_
    simp [hlt,hlp,hf,Fi.enc,strs,hs,he,this]
  ·have hlt' : ¬ (q : Int) < (x.fields.length : Int):=by omega
   have : litB x.fields e.place.path = true:=hli.2 fun i h h2=>hall i h h2 (by omega)
   simp [hlt',this]
 ·have hleb : ((x.fields.length : Int) != (e.args.length : Int)) = true:=by simp; omega
  simp [Tryz.ntmps157,hle,hleb]
end Go.Proofs.YtfbpibkpmcceaaaGreatDoor
namespace Go.Proofs.YtfbpibkpmcceaaaGreatDoor
open Go.RowKit
attribute [local simp] List.replicate List.range List.range.loop resA resOne retA AV.cuts AV.cut AObj.cut trim wkR wkT wkL wkN wkNR wkNL wkM wkMR wkML
theorem vr_len : ∀ l : List Fg,(rowC vrE l).length = l.length * 2
 | []=>rfl
 | e :: l=>by
  show ((vrE e).map AV.p ++ rowC vrE l).length = _
  rw [List.length_append,vr_len l,List.length_cons]
  simp [vrE]; omega
theorem vr_get : ∀ (l : List Fg) (i : Nat) (h : i < l.length),(rowC vrE l)[i * 2]? = some (Sg l[i].1) ∧ (rowC vrE l)[i * 2 + 1]? = some (B l[i].2)
 | e :: l,0,h=>⟨rfl,rfl⟩
 | e :: l,i + 1,h=>by
  have:=vr_get l i (by simpa using h)
  have e0 : rowC vrE (e :: l) = Sg e.1 :: B e.2 :: rowC vrE l:=rfl
  have e1 : (i + 1) * 2 = i * 2 + 1 + 1:=by omega
  rw [e0,e1]
  simpa using this
theorem thereW (p : List It) (s : ByteArray) (w : Wf) (hw : w.vars.length ≤ 4294967295) (S : ASt) (c : Wg) (h : WAt p S c w) : ADet Tryz.prog 155 [.ptr c.d c.jW 0,Sg s] S (B (vIs w.vars s)) S:=by
 have ho:=h.q.w
 have hv:=h.v
 simp only [wkC,rvO,Wg.q] at ho hv
 have hlen : w.vars.length ≤ maxLen:=by unfold maxLen; omega
 refine ADet.intro mixed Tryz.call155 Tryz.func155 rfl ?_
 simp [Tryz.ntmps155]
 refine awp_loop (fun q : Nat=>q ≤ w.vars.length ∧ vIs (w.vars.take q) s = false) (fun q=>([.ptr (c.d + 1) c.jW 0,Sg s,.any,.any,.any,I q] ++ List.replicate 29 .any)) (fun q=>[] :: S) (fun q=>w.vars.length - q) 0 ⟨Nat.zero_le _,rfl⟩ ?_ ?_ ?_
 ·simp
 ·simp
 rintro q ⟨hq,hall⟩
 by_cases hlt : q < w.vars.length
 ·have hlt' : (q : Int) < (w.vars.length : Int):=by omega
  have hw2:=wrap_succ hlt
  have hmu : w.vars.length - (q + 1) < w.vars.length - q:=by omega
  have hnx : vIs (w.vars.take (q + 1)) s = (vIs (w.vars.take q) s || (sEq w.vars[q].1 s && w.vars[q].2)):=by
   unfold vIs
   rw [List.take_succ_eq_append_getElem hlt,List.any_append]
   simp
  have hyes : (sEq w.vars[q].1 s && w.vars[q].2) = true → vIs w.vars s = true:=fun h0=>by
   unfold vIs
   exact List.any_eq_true.2 ⟨w.vars[q],List.getElem_mem hlt,h0⟩
  rw [hall,Bool.false_or] at hnx
  obtain ⟨g1,g2⟩:=vr_get w.vars q hlt
  have gl:=vr_len w.vars
  generalize hf : w.vars[q] = f at *
  generalize rowC vrE w.vars = rc at *
  cases hs : sEq f.1 s with
  | false =>
   simp [hlt,hlt',ho,hv,g1,g2,hs]
   exact ⟨q + 1,⟨hlt,by rw [hnx,hs]; rfl⟩,hmu,hw2⟩
  | true =>
   cases hb : f.2 with
   | true =>
    simp [hlt,hlt',ho,hv,g1,g2,hs,hb]
    exact hyes (by rw [hs,hb]; rfl)
   | false =>
    simp [hlt,hlt',ho,hv,g1,g2,hs,hb]
    exact ⟨q + 1,⟨hlt,by rw [hnx,hb]; simp⟩,hmu,hw2⟩
 ·have hlt' : ¬ (q : Int) < (w.vars.length : Int):=by omega
  have hq2 : q = w.vars.length:=by omega
  subst hq2
  rw [List.take_length] at hall
  simp [hlt',ho,hv,hall]
theorem updW_v {p : List It} {S : ASt} {c : Wg} {w : Wf} (h : WAt p S c w) (v : List Fg) : set2 (set2 S c.d c.jV (rvO v)) c.d c.jW (wkC p (c.q ⟨v,w.opn,w.fl⟩) w.fl.length) = updW p S c ⟨v,w.opn,w.fl⟩:=by
 have hn:=h.ne
 have hw : get2 S c.d c.jW = some (wkC p (c.q w) w.fl.length):=h.q.w
 have hr : get2 S (c.k + c.d) 2 = some (rwO w.fl):=h.q.r
 have h1 : get2 (set2 S c.d c.jV (rvO v)) c.d c.jW = some (wkC p (c.q w) w.fl.length):=by rw [get2_set _ h.v,if_neg (by omega)]; exact hw
 refine st_ext (by rw [updW_map,set_map,set_map]) fun d i=>?_
 rw [updW_get h,get2_set _ h1,get2_set _ h.v]
 by_cases h1 : d = c.d ∧ i = c.jV
 ·rw [if_neg (by omega),if_pos h1,if_pos h1]
 ·rw [if_neg h1,if_neg h1]
  by_cases h2 : d = c.d ∧ i = c.jW
  ·rw [if_pos h2,if_pos h2]
  ·rw [if_neg h2,if_neg h2]
   split
   ·rename_i h3; rw [h3.1,h3.2,hr]
   ·rfl
theorem rv_app (v : List Fg) (s : ByteArray) (b : Bool) : rowC vrE (v ++ [(s,b)]) = rowC vrE v ++ [Sg s,B b]:=by
 unfold rowC
 rw [List.map_append,List.flatten_append]
 rfl
theorem makeW (p : List It) (s : ByteArray) (pos : Int) (w : Wf) (hw : w.vars.length < 4294967295) (hl : w.fl.length + 1 ≤ 4294967296) : WC p 110 [Sg s,I pos] w (w.mk1 s pos):=fun S c h=>by
 have ho:=h.q.w
 have hv:=h.v
 have hwr:=fun L=>((wrongQ p 60 pos w.fl hl).inW).at0 h L
 have hA:=h.updW ⟨w.vars,w.opn,w.fl ++ [(60,pos)]⟩
 have hoA:=hA.q.w
 have hvA:=hA.v
 have hA2:=updW_v hA (w.vars ++ [(s,true)])
 have hS2:=updW_v h (w.vars ++ [(s,true)])
 rw [updW_updW h] at hA2
 have nA:=fun o=>get2_set2_ne (updW p S c ⟨w.vars,w.opn,w.fl ++ [(60,pos)]⟩) c.d (i:=c.jV) (j:=c.jW) o h.ne
 have nS:=fun o=>get2_set2_ne S c.d (i:=c.jV) (j:=c.jW) o h.ne
 generalize hT : updW p S c ⟨w.vars,w.opn,w.fl ++ [(60,pos)]⟩ = T at *
 have hmk : w.mk1 s pos = ⟨w.vars ++ [(s,true)],w.opn,w.fl ++ wrongL (!vHas w.vars s) 60 pos⟩:=rfl
 simp only [wkC,rvO,Wg.q] at ho hv hoA hvA
 simp only [wkC,rvO,Wg.q,rv_app] at hA2 hS2
 have hlen : w.vars.length ≤ maxLen:=by unfold maxLen; omega
 have hle : w.vars.length + 1 ≤ 4294967296:=by omega
 refine ADet.intro mixed Tryz.call110 Tryz.func110 rfl ?_
 simp [Tryz.ntmps110]
 refine awp_loop (fun q : Nat=>q ≤ w.vars.length ∧ vHas (w.vars.take q) s = false) (fun q=>([.ptr (c.d + 1) c.jW 0,Sg s,I pos,.any,.any,.any,I q] ++ List.replicate 33 .any)) (fun q=>[] :: S) (fun q=>w.vars.length - q) 0 ⟨Nat.zero_le _,rfl⟩ ?_ ?_ ?_
 ·simp
 ·simp
 rintro q ⟨hq,hall⟩
 by_cases hlt : q < w.vars.length
 ·have hlt' : (q : Int) < (w.vars.length : Int):=by omega
  have hw2:=wrap_succ hlt
  have hmu : w.vars.length - (q + 1) < w.vars.length - q:=by omega
  have hnx : vHas (w.vars.take (q + 1)) s = (vHas (w.vars.take q) s || sEq w.vars[q].1 s):=by
   unfold vHas
   rw [List.take_succ_eq_append_getElem hlt,List.any_append]
   simp
  have hyes : sEq w.vars[q].1 s = true → vHas w.vars s = true:=fun h0=>by
   unfold vHas
   exact List.any_eq_true.2 ⟨w.vars[q],List.getElem_mem hlt,h0⟩
  rw [hall,Bool.false_or] at hnx
  obtain ⟨g1,g2⟩:=vr_get w.vars q hlt
  have gl:=vr_len w.vars
  generalize hf : w.vars[q] = f at *
  generalize rowC vrE w.vars = rc at *
  cases hs : sEq f.1 s with
  | false =>
   simp [hlt,hlt',ho,hv,g1,g2,hs]
   exact ⟨q + 1,⟨hlt,by rw [hnx,hs]⟩,hmu,hw2⟩
  | true =>
   have hh:=hyes hs
   simp [hlt,hlt',ho,hv,g1,g2,hs]
   refine ⟨_,_,hwr _,?_⟩
   simp [hoA,hvA,hle,nA,set2_suc]
   rw [hmk,hh]
   have e : w.fl ++ wrongL (!true) 60 pos = w.fl ++ [(60,pos)]:=rfl
   rw [e,← hA2]
   simp
 ·have hlt' : ¬ (q : Int) < (w.vars.length : Int):=by omega
  have hq2 : q = w.vars.length:=by omega
  subst hq2
  rw [List.take_length] at hall
  simp [hlt',ho,hv,hall,hle,nS,set2_suc]
  rw [hmk,hall]
  have e : w.fl ++ wrongL (!false) 60 pos = w.fl:=by simp [wrongL]
  rw [e,← hS2]
  simp
end Go.Proofs.YtfbpibkpmcceaaaGreatDoor
