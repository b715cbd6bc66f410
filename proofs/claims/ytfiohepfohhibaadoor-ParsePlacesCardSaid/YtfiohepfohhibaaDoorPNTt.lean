/- A part of the proof. The statement is proved in the claim's last text. -/
import Derived.Test.YtfiohepfohhibaaDoorPMPt
import Derived.Test.YtfiohepfohhibaaDoorPMRoom
set_option linter.unusedVariables false
set_option linter.unusedSimpArgs false
set_option maxRecDepth 100000
set_option maxHeartbeats 32000000
namespace Go.Proofs.YtfiohepfohhibaaDoor
open Go.RowKit
def rem (l : List Tok) (s : RS) : Nat:=l.length - s.at_
structure Fw (l : List Tok) (s s' : RS) : Prop where
 le : s'.at_ ≤ l.length
 up : s.at_ ≤ s'.at_
 bad : s.bad = true → s'.bad = true
def Pg (s s' : RS) : Prop:=s'.bad = false → s.at_ < s'.at_
theorem Fw.refl {l : List Tok} {s : RS} (h : s.at_ ≤ l.length) : Fw l s s:=⟨h,Nat.le_refl _,id⟩
theorem Fw.trans {l : List Tok} {a b c : RS} (h : Fw l a b) (k : Fw l b c) : Fw l a c:=⟨k.le,Nat.le_trans h.up k.up,fun x=>k.bad (h.bad x)⟩
theorem Fw.rem {l : List Tok} {a b : RS} (h : Fw l a b) : rem l b ≤ rem l a:=by have:=h.up; unfold Proofs.YtfiohepfohhibaaDoor.rem; omega
theorem Pg.left {l : List Tok} {a b c : RS} (h : Pg a b) (k : Fw l b c) : Pg a c:=fun hc=>by
 have hb : b.bad = false:=by
  cases hb : b.bad with
  | false=>rfl
  | true=>rw [k.bad hb] at hc; cases hc
 have:=h hb
 have:=k.up
 omega
theorem Pg.right {l : List Tok} {a b c : RS} (h : Fw l a b) (k : Pg b c) : Pg a c:=fun hc=>by
 have:=k hc
 have:=h.up
 omega
theorem Pg.rem {l : List Tok} {a b : RS} (hb : b.at_ ≤ l.length) (h : Pg a b) (hg : b.bad = false) : rem l b + 1 ≤ rem l a:=by
 have:=h hg
 unfold Proofs.YtfiohepfohhibaaDoor.rem
 omega
theorem is_lt {l : List Tok} {s : RS} {t : ByteArray} (h : isP l s t 0 = true) : s.bad = false ∧ s.at_ < l.length:=by
 unfold isP at h
 simp only [Bool.and_eq_true,Bool.not_eq_true',Nat.add_zero] at h
 refine ⟨h.1,?_⟩
 cases hx : l[s.at_]? with
 | none=>rw [hx] at h; simp at h
 | some x=>exact (List.getElem?_eq_some_iff.1 hx).1
theorem hand_lt {l : List Tok} {s : RS} {k : Int} (h : handP l s k = true) : s.bad = false ∧ s.at_ < l.length:=by
 unfold handP at h
 simp only [Bool.and_eq_true,Bool.not_eq_true'] at h
 refine ⟨h.1,?_⟩
 cases hx : l[s.at_]? with
 | none=>rw [hx] at h; simp at h
 | some x=>exact (List.getElem?_eq_some_iff.1 hx).1
theorem may_fw {l : List Tok} {s : RS} (hs : s.at_ ≤ l.length) (t : ByteArray) : Fw l s (mayP l s t):=by
 unfold mayP
 split
 ·rename_i h
  have:=(is_lt h).2
  exact ⟨this,Nat.le_succ _,id⟩
 ·exact .refl hs
theorem may_pg {l : List Tok} {s : RS} {t : ByteArray} (h : isP l s t 0 = true) : s.at_ < (mayP l s t).at_ ∧ (mayP l s t).bad = s.bad:=by
 unfold mayP
 rw [if_pos h]
 exact ⟨Nat.lt_succ_self _,rfl⟩
theorem must1_fw {l : List Tok} {s : RS} (hs : s.at_ ≤ l.length) (t : ByteArray) : Fw l s ⟨(mayP l s t).at_,!isP l s t 0,s.full⟩ ∧ Pg s ⟨(mayP l s t).at_,!isP l s t 0,s.full⟩:=by
 have h:=may_fw hs t
 refine ⟨⟨h.le,h.up,fun hb=>?_⟩,fun hb=>?_⟩
 ·cases hi : isP l s t 0 with
  | false=>rfl
  | true=>rw [(is_lt hi).1] at hb; cases hb
 ·have hi : isP l s t 0 = true:=by
   cases hi : isP l s t 0 with
   | true=>rfl
   | false=>rw [hi] at hb; cases hb
  exact (may_pg hi).1
theorem must_fw {l : List Tok} : ∀ (ts : List ByteArray) (s : RS),s.at_ ≤ l.length → Fw l s (mustP l s ts)
 | [],s,hs=>.refl hs
 | t :: ts,s,hs=>by
  have h:=(must1_fw hs t).1
  exact h.trans (must_fw ts _ h.le)
theorem must_pg {l : List Tok} (t : ByteArray) (ts : List ByteArray) (s : RS) (hs : s.at_ ≤ l.length) : Pg s (mustP l s (t :: ts)):=by
 obtain ⟨h,k⟩:=must1_fw hs t
 exact k.left (must_fw ts _ h.le)
theorem take_fw {l : List Tok} {s : RS} (hs : s.at_ ≤ l.length) (k : Int) : Fw l s (takeP l s k):=by
 unfold takeP
 split
 ·rename_i h
  exact ⟨(hand_lt h).2,Nat.le_succ _,id⟩
 ·exact ⟨hs,Nat.le_refl _,fun _=>rfl⟩
theorem take_pg {l : List Tok} (s : RS) (k : Int) : Pg s (takeP l s k):=by
 unfold takeP
 split
 ·exact fun _=>Nat.lt_succ_self _
 ·intro h; cases h
def mu (l : List Tok) (s : RS) : Nat:=if s.bad = true then 0 else rem l s + 1
theorem mu_bad {l : List Tok} {s : RS} (h : s.bad = true) : mu l s = 0:=by unfold mu; rw [if_pos h]
theorem mu_good {l : List Tok} {s : RS} (h : s.bad = false) : mu l s = rem l s + 1:=by unfold mu; rw [if_neg (by rw [h]; simp)]
theorem Fw.mu {l : List Tok} {a b : RS} (h : Fw l a b) : mu l b ≤ mu l a:=by
 cases hb : b.bad with
 | true=>rw [mu_bad hb]; exact Nat.zero_le _
 | false =>
  have ha : a.bad = false:=by
   cases ha : a.bad with
   | false=>rfl
   | true=>rw [h.bad ha] at hb; cases hb
  rw [mu_good hb,mu_good ha]
  have:=h.rem
  omega
theorem Pg.mu {l : List Tok} {a b : RS} (h : Fw l a b) (k : Pg a b) (ha : a.bad = false) : mu l b + 1 ≤ mu l a:=by
 rw [mu_good ha]
 cases hb : b.bad with
 | true=>rw [mu_bad hb]; omega
 | false =>
  rw [mu_good hb]
  have:=k.rem h.le hb
  omega
theorem hand_bad {l : List Tok} {s : RS} (h : s.bad = true) (k : Int) : handP l s k = false:=by unfold handP; rw [h]; rfl
theorem text_bad {l : List Tok} {s : RS} (h : s.bad = true) (k : Int) : takeT l s k = emS:=by unfold takeT; rw [hand_bad h,if_neg (by simp)]
def TotP {α : Type} (l : List Tok) (f : RS → Option (α × RS)) (r : Nat) : Prop:=∀ s : RS,s.at_ ≤ l.length → mu l s ≤ r → ∃ x s',f s = some (x,s') ∧ Fw l s s' ∧ Pg s s'
theorem TotP.le {α : Type} {l : List Tok} {f : RS → Option (α × RS)} {r r' : Nat} (h : TotP l f r) (k : r' ≤ r) : TotP l f r':=fun s hs hr=>h s hs (Nat.le_trans hr k)
theorem kind_tot {l : List Tok} : ∀ (n : Nat) (s : RS),s.at_ ≤ l.length → mu l s < n → ∃ t s',kindP l n s = some (t,s') ∧ Fw l s s' ∧ Pg s s'
 | 0,s,_,h=>by omega
 | n + 1,s,hs,h=>by
  unfold kindP
  split
  ·rename_i hi
   have h1:=may_pg hi
   have hb:=(is_lt hi).1
   have f1:=may_fw hs (⟨#[38]⟩ : ByteArray)
   have f2:=may_fw f1.le (⟨#[109,117,116]⟩ : ByteArray)
   have p1 : Pg s (mayP l s (⟨#[38]⟩ : ByteArray)):=fun _=>h1.1
   have m1:=p1.mu f1 hb
   have m2:=f2.mu
   obtain ⟨t,s',k1,k2,k3⟩:=kind_tot n _ f2.le (by omega)
   exact ⟨_,s',by dsimp only; rw [k1]; rfl,(f1.trans f2).trans k2,Pg.right (f1.trans f2) k3⟩
  split
  ·exact ⟨_,_,rfl,take_fw hs 3,take_pg s 3⟩
  split
  ·exact ⟨_,_,rfl,take_fw hs 1,take_pg s 1⟩
  split
  ·exact ⟨_,_,rfl,⟨hs,Nat.le_refl _,fun _=>rfl⟩,fun h=>by cases h⟩
  ·rename_i k hk
   have hb : s.bad = false:=by
    cases hb : s.bad with
    | false=>rfl
    | true =>
     rw [text_bad hb] at hk
     have : findK emS wrapK = none:=by kernel_rfl
     rw [this] at hk; cases hk
   have f1:=take_fw hs 1 (s:=s)
   have f2:=must_fw [(⟨#[60]⟩ : ByteArray)] _ f1.le
   have p1:=(take_pg (l:=l) s 1).left f2
   have m1:=p1.mu (f1.trans f2) hb
   obtain ⟨t,s',k1,k2,k3⟩:=kind_tot n _ f2.le (by omega)
   have f3:=must_fw [(⟨#[62]⟩ : ByteArray)] _ k2.le
   exact ⟨_,_,by rw [k1]; rfl,((f1.trans f2).trans k2).trans f3,(Pg.right (f1.trans f2) k3).left f3⟩
theorem listL_tot {α : Type} {l : List Tok} {rd : RS → Option (α × RS)} {r : Nat} (hrd : TotP l rd r) : ∀ (n : Nat) (acc : List α) (s : RS),s.at_ ≤ l.length → mu l s < n → mu l s ≤ r → ∃ x s',listL l rd n acc s = some (x,s') ∧ Fw l s s'
 | 0,acc,s,_,h,_=>by omega
 | n + 1,acc,s,hs,h,hr=>by
  unfold listL
  split
  ·rename_i hi
   have hb:=(is_lt hi).1
   have f1:=may_fw hs (⟨#[44]⟩ : ByteArray)
   have p1 : Pg s (mayP l s (⟨#[44]⟩ : ByteArray)):=fun _=>(may_pg hi).1
   have m1:=p1.mu f1 hb
   obtain ⟨x,s1,k1,k2,k3⟩:=hrd _ f1.le (by omega)
   have m2:=k2.mu
   obtain ⟨y,s2,j1,j2⟩:=listL_tot hrd n (acc ++ [x]) s1 k2.le (by omega) (by omega)
   exact ⟨y,s2,by rw [k1]; exact j1,(f1.trans k2).trans j2⟩
  ·exact ⟨_,_,rfl,.refl hs⟩
theorem few_fw {l : List Tok} {s : RS} (hs : s.at_ ≤ l.length) (n : Nat) : Fw l s (fewP s n):=⟨hs,Nat.le_refl _,id⟩
theorem list_tot {α : Type} {l : List Tok} {rd : RS → Option (α × RS)} {r : Nat} (hrd : TotP l rd r) (e : ByteArray) (n : Nat) (hn : r < n) : TotP l (listP l rd e n) r:=fun s hs hr=>by
 unfold listP
 split
 ·rename_i hi
  exact ⟨_,_,rfl,may_fw hs e,fun _=>(may_pg hi).1⟩
 ·obtain ⟨x,s1,k1,k2,k3⟩:=hrd s hs hr
  have m1:=k2.mu
  obtain ⟨y,s2,j1,j2⟩:=listL_tot hrd n [x] s1 k2.le (by omega) (by omega)
  have f3:=must_fw [e] _ j2.le
  have f4:=few_fw f3.le y.length
  exact ⟨y,_,by rw [k1]; simp only; rw [j1]; rfl,((k2.trans j2).trans f3).trans f4,k3.left ((j2.trans f3).trans f4)⟩
theorem pathL_tot {l : List Tok} : ∀ (n : Nat) (acc : List ByteArray) (s : RS),s.at_ ≤ l.length → mu l s < n → ∃ x s',pathL l n acc s = some (x,s') ∧ Fw l s s'
 | 0,acc,s,_,h=>by omega
 | n + 1,acc,s,hs,h=>by
  unfold pathL
  split
  ·rename_i hi
   have hb:=(is_lt hi).1
   have f1:=may_fw hs (⟨#[46]⟩ : ByteArray)
   have p1 : Pg s (mayP l s (⟨#[46]⟩ : ByteArray)):=fun _=>(may_pg hi).1
   have m1:=p1.mu f1 hb
   simp only
   split
   ·have f2:=may_fw f1.le (⟨#[42]⟩ : ByteArray)
    have m2:=f2.mu
    obtain ⟨y,s2,j1,j2⟩:=pathL_tot n (acc ++ [(⟨#[42]⟩ : ByteArray)]) _ f2.le (by omega)
    exact ⟨y,s2,j1,(f1.trans f2).trans j2⟩
   ·have f2:=take_fw f1.le 2
    have m2:=f2.mu
    obtain ⟨y,s2,j1,j2⟩:=pathL_tot n (acc ++ [takeT l (mayP l s (⟨#[46]⟩ : ByteArray)) 2]) _ f2.le (by omega)
    exact ⟨y,s2,j1,(f1.trans f2).trans j2⟩
  ·exact ⟨_,_,rfl,.refl hs⟩
theorem path_tot {l : List Tok} (n r : Nat) (hn : r < n) : TotP l (pathP l n) r:=fun s hs hr=>by
 have f1:=take_fw hs 2 (s:=s)
 have m1:=f1.mu
 obtain ⟨y,s2,j1,j2⟩:=pathL_tot n [] _ f1.le (by omega)
 unfold pathP
 exact ⟨_,s2,by rw [j1]; rfl,f1.trans j2,(take_pg s 2).left j2⟩
def NumsOk (l : List Tok) : Prop:=∀ t ∈ l,t.kind = 4 → ∃ v,numT t.text = some v
section
variable {l : List Tok} {rd : RS → Option (Ex × RS)} {r n : Nat}
theorem lent_tot (hrd : TotP l rd r) (hn : r < n) : TotP l (lentQ l n rd) r:=fun s hs hr=>by
 unfold lentQ
 split
 ·rename_i hi
  have f1:=may_fw hs (⟨#[38]⟩ : ByteArray)
  have f2:=may_fw f1.le (⟨#[109,117,116]⟩ : ByteArray)
  have m:=(f1.trans f2).mu
  obtain ⟨x,s',k1,k2,k3⟩:=path_tot n r hn _ f2.le (by omega)
  exact ⟨_,s',by rw [k1]; rfl,(f1.trans f2).trans k2,Pg.right (f1.trans f2) k3⟩
 ·exact hrd s hs hr
theorem hand_tot (hrd : TotP l rd r) : TotP l (handQ l rd) r:=fun s hs hr=>by
 unfold handQ
 have f1:=take_fw hs 2 (s:=s)
 have f2:=must_fw [(⟨#[61]⟩ : ByteArray)] _ f1.le
 have m:=(f1.trans f2).mu
 obtain ⟨x,s',k1,k2,k3⟩:=hrd _ f2.le (by omega)
 exact ⟨_,s',by rw [k1]; rfl,(f1.trans f2).trans k2,Pg.right (f1.trans f2) k3⟩
theorem called_tot (hrd : TotP l rd r) (hn : r < n) (op pos : Int) : ∀ s : RS,s.at_ ≤ l.length → mu l s ≤ r → ∃ x s',calledQ l n rd op pos s = some (x,s') ∧ Fw l s s':=fun s hs hr=>by
 have f1:=must_fw [(⟨#[40]⟩ : ByteArray)] _ hs
 have m1:=f1.mu
 unfold calledQ
 split
 ·obtain ⟨x,s',k1,k2,k3⟩:=path_tot n r hn _ f1.le (by omega)
  have f3:=must_fw [(⟨#[41]⟩ : ByteArray)] _ k2.le
  exact ⟨_,_,by rw [k1]; rfl,(f1.trans k2).trans f3⟩
 split
 ·obtain ⟨x,s',k1,k2,k3⟩:=path_tot n r hn _ f1.le (by omega)
  have f3:=must_fw [(⟨#[44]⟩ : ByteArray)] _ k2.le
  have m3:=(k2.trans f3).mu
  obtain ⟨y,s2,j1,j2,j3⟩:=hrd _ f3.le (by omega)
  have f4:=must_fw [(⟨#[41]⟩ : ByteArray)] _ j2.le
  exact ⟨_,_,by rw [k1]; simp only; rw [j1]; rfl,(((f1.trans k2).trans f3).trans j2).trans f4⟩
 ·obtain ⟨y,s2,j1,j2,j3⟩:=hrd _ f1.le (by omega)
  have f4:=must_fw [(⟨#[41]⟩ : ByteArray)] _ j2.le
  exact ⟨_,_,by rw [j1]; rfl,(f1.trans j2).trans f4⟩
theorem upper_tot (hrd : TotP l rd r) (hn : r < n) (pos : Int) (s : RS) (hs : s.at_ ≤ l.length) (m1 : mu l (takeP l s 3) ≤ r) : ∃ x s',upperQ l n rd pos s = some (x,s') ∧ Fw l s s' ∧ Pg s s':=by
 have f1:=take_fw hs 3 (s:=s)
 have p1:=take_pg (l:=l) s 3
 unfold upperQ
 split
 ·have f2:=may_fw f1.le (⟨#[123]⟩ : ByteArray)
  have m2:=f2.mu
  obtain ⟨y,s2,j1,j2,j3⟩:=list_tot (hand_tot hrd) (⟨#[125]⟩ : ByteArray) n hn _ f2.le (by omega)
  exact ⟨_,_,by rw [j1]; rfl,(f1.trans f2).trans j2,p1.left (f2.trans j2)⟩
 ·have f2:=must_fw [(⟨#[46]⟩ : ByteArray)] _ f1.le
  have f3:=take_fw f2.le 3
  have m3:=(f2.trans f3).mu
  simp only
  split
  ·have f4:=may_fw f3.le (⟨#[40]⟩ : ByteArray)
   have m4:=f4.mu
   obtain ⟨y,s2,j1,j2,j3⟩:=hrd _ f4.le (by omega)
   have f5:=must_fw [(⟨#[41]⟩ : ByteArray)] _ j2.le
   exact ⟨_,_,by rw [j1]; rfl,((((f1.trans f2).trans f3).trans f4).trans j2).trans f5,p1.left ((((f2.trans f3).trans f4).trans j2).trans f5)⟩
  ·exact ⟨_,_,rfl,(f1.trans f2).trans f3,p1.left (f2.trans f3)⟩
theorem simple_tot (hk : NumsOk l) (hrd : TotP l rd r) (hn : r + 1 < n) : TotP l (simpleQ l n rd) (r + 1):=fun s hs hr=>by
 unfold simpleQ
 split
 ·rename_i hb
  exact ⟨_,_,rfl,.refl hs,fun h=>by rw [hb] at h; cases h⟩
 rename_i hb0
 have hb : s.bad = false:=by simpa using hb0
 cases hx : l[s.at_]? with
 | none=>exact ⟨_,_,rfl,⟨hs,Nat.le_refl _,fun _=>rfl⟩,fun h=>by cases h⟩
 | some x =>
 have hlt:=(List.getElem?_eq_some_iff.1 hx).1
 have hxm : x ∈ l:=List.mem_of_getElem? hx
 have f0 : Fw l s ⟨s.at_ + 1,s.bad,s.full⟩:=⟨hlt,Nat.le_succ _,id⟩
 have p0 : Pg s ⟨s.at_ + 1,s.bad,s.full⟩:=fun _=>Nat.lt_succ_self _
 have m0:=p0.mu f0 hb
 simp only
 split
 ·rename_i h4
  obtain ⟨v,hv⟩:=hk x hxm h4
  exact ⟨_,_,by rw [hv]; rfl,f0,p0⟩
 split
 ·rename_i h3
  have f1:=take_fw hs 3 (s:=s)
  have m1:=(take_pg (l:=l) s 3).mu f1 hb
  exact upper_tot (r:=r) (n:=n) hrd (by omega) x.pos s hs (by omega)
 split
 ·split
  ·have f1:=take_fw hs 2 (s:=s)
   have p1:=take_pg (l:=l) s 2
   have m1:=p1.mu f1 hb
   have f2:=must_fw [(⟨#[40]⟩ : ByteArray)] _ f1.le
   have m2:=f2.mu
   obtain ⟨y,s2,j1,j2,j3⟩:=list_tot (r:=r) (lent_tot (r:=r) (n:=n) hrd (by omega)) (⟨#[41]⟩ : ByteArray) n (by omega) _ f2.le (by omega)
   exact ⟨_,_,by rw [j1]; rfl,(f1.trans f2).trans j2,p1.left (f2.trans j2)⟩
  ·obtain ⟨y,s2,j1,j2,j3⟩:=path_tot n (r + 1) hn s hs hr
   exact ⟨_,_,by rw [j1]; rfl,j2,j3⟩
 split
 ·rename_i op hop
  obtain ⟨y,s2,j1,j2⟩:=called_tot (r:=r) (n:=n) hrd (by omega) op x.pos _ f0.le (by omega)
  exact ⟨y,s2,j1,f0.trans j2,p0.left j2⟩
 ·split
  ·rename_i hi
   exact ⟨_,_,rfl,may_fw hs _,fun _=>(may_pg hi).1⟩
  split
  ·rename_i hi
   exact ⟨_,_,rfl,may_fw hs _,fun _=>(may_pg hi).1⟩
  have f1:=must_fw [(⟨#[40]⟩ : ByteArray)] _ hs
  have p1:=must_pg (⟨#[40]⟩ : ByteArray) [] s hs
  have m1:=p1.mu f1 hb
  split
  ·have f2:=may_fw f1.le (⟨#[41]⟩ : ByteArray)
   exact ⟨_,_,rfl,f1.trans f2,p1.left f2⟩
  ·obtain ⟨y,s2,j1,j2,j3⟩:=hrd _ f1.le (by omega)
   have f3:=must_fw [(⟨#[41]⟩ : ByteArray)] _ j2.le
   exact ⟨_,_,by rw [j1]; rfl,(f1.trans j2).trans f3,p1.left (j2.trans f3)⟩
theorem signs_tot (hrd : TotP l rd r) (k : Nat) : ∀ (n : Nat) (e : Ex) (s : RS),s.at_ ≤ l.length → mu l s < n → mu l s ≤ r + 1 → ∃ x s',signsQ l rd k n e s = some (x,s') ∧ Fw l s s'
 | 0,e,s,_,h,_=>by omega
 | n + 1,e,s,hs,h,hr=>by
  unfold signsQ
  split
  ·exact ⟨_,_,rfl,.refl hs⟩
  rename_i hb0
  have hb : s.bad = false:=by simpa using hb0
  cases hx : l[s.at_]? with
  | none=>exact ⟨_,_,rfl,.refl hs⟩
  | some x =>
  have hlt:=(List.getElem?_eq_some_iff.1 hx).1
  have f0 : Fw l s ⟨s.at_ + 1,s.bad,s.full⟩:=⟨hlt,Nat.le_succ _,id⟩
  have p0 : Pg s ⟨s.at_ + 1,s.bad,s.full⟩:=fun _=>Nat.lt_succ_self _
  have m0:=p0.mu f0 hb
  simp only
  split
  ·exact ⟨_,_,rfl,.refl hs⟩
  ·obtain ⟨y,s1,j1,j2,j3⟩:=hrd _ f0.le (by omega)
   have m1:=j2.mu
   rw [j1]
   simp only
   split
   ·exact ⟨_,_,rfl,f0.trans j2⟩
   ·obtain ⟨z,s2,k1,k2⟩:=signs_tot hrd k n _ s1 j2.le (by omega) (by omega)
    exact ⟨z,s2,k1,(f0.trans j2).trans k2⟩
end
theorem strong_tot {l : List Tok} (hk : NumsOk l) : ∀ (n j r : Nat),j ≤ 6 → 10 * r + j + 3 ≤ n → TotP l (strongQ l n j) r:=by
 intro n
 induction n with
 | zero=>intro j r _ h; omega
 | succ n ih =>
 intro j r hj h s hs hr
 cases j with
 | zero =>
  unfold strongQ
  split
  ·rename_i hb
   exact ⟨_,_,rfl,.refl hs,fun h=>by rw [hb] at h; cases h⟩
  rename_i hb0
  have hb : s.bad = false:=by simpa using hb0
  have hr0 : 0 < r:=by rw [mu_good hb] at hr; omega
  obtain ⟨r',rfl⟩ : ∃ r',r = r' + 1:=⟨r - 1,by omega⟩
  split
  ·rename_i hi
   have f1:=may_fw hs (⟨#[45]⟩ : ByteArray)
   have p1 : Pg s (mayP l s (⟨#[45]⟩ : ByteArray)):=fun _=>(may_pg hi).1
   have m1:=p1.mu f1 hb
   obtain ⟨y,s2,j1,j2,j3⟩:=ih 0 r' (by omega) (by omega) _ f1.le (by omega)
   exact ⟨_,_,by rw [j1]; rfl,f1.trans j2,p1.left j2⟩
  ·exact simple_tot hk (ih 6 r' (by omega) (by omega)) (by omega) s hs hr
 | succ j =>
  unfold strongQ
  split
  ·rename_i hb
   exact ⟨_,_,rfl,.refl hs,fun h=>by rw [hb] at h; cases h⟩
  rename_i hb0
  have hb : s.bad = false:=by simpa using hb0
  have hr0 : 0 < r:=by rw [mu_good hb] at hr; omega
  obtain ⟨r',rfl⟩ : ∃ r',r = r' + 1:=⟨r - 1,by omega⟩
  split
  ·rename_i hi
   have f1:=may_fw hs (⟨#[110,111,116]⟩ : ByteArray)
   have p1 : Pg s (mayP l s (⟨#[110,111,116]⟩ : ByteArray)):=fun _=>(may_pg hi.2).1
   have m1:=p1.mu f1 hb
   obtain ⟨y,s2,j1,j2,j3⟩:=ih 4 r' (by omega) (by omega) _ f1.le (by omega)
   exact ⟨_,_,by rw [j1]; rfl,f1.trans j2,p1.left j2⟩
  ·obtain ⟨y,s1,j1,j2,j3⟩:=ih j (r' + 1) (by omega) (by omega) s hs hr
   have m1:=j3.mu j2 hb
   obtain ⟨z,s2,k1,k2⟩:=signs_tot (ih j r' (by omega) (by omega)) (5 - j) n y s1 j2.le (by omega) (by omega)
   exact ⟨z,s2,by rw [j1]; exact k1,j2.trans k2,j3.left k2⟩
end Go.Proofs.YtfiohepfohhibaaDoor
namespace Go.Proofs.YtfiohepfohhibaaDoor
open Go.RowKit
def TotF {α : Type} (l : List Tok) (f : RS → Option (α × RS)) (r : Nat) : Prop:=∀ s : RS,s.at_ ≤ l.length → mu l s ≤ r → ∃ x s',f s = some (x,s') ∧ Fw l s s'
theorem TotP.f {α : Type} {l : List Tok} {f : RS → Option (α × RS)} {r : Nat} (h : TotP l f r) : TotF l f r:=fun s hs hr=>by
 obtain ⟨x,s',a,b,_⟩:=h s hs hr
 exact ⟨x,s',a,b⟩
theorem name_tot {l : List Tok} (r : Nat) : TotP l (nameQ l) r:=fun s hs _=>⟨_,_,rfl,take_fw hs 2,take_pg s 2⟩
theorem numV_tot {l : List Tok} (hk : NumsOk l) (s : RS) : ∃ v,numV l s = some v:=by
 unfold numV
 split
 ·rename_i hh
  have hlt:=(hand_lt hh).2
  have hx : l[s.at_]? = some l[s.at_]:=List.getElem?_eq_getElem hlt
  have hkd : l[s.at_].kind = 4:=by
   unfold handP at hh
   rw [hx] at hh
   simp only [Bool.and_eq_true,beq_iff_eq] at hh
   exact hh.2
  have ht : takeT l s 4 = l[s.at_].text:=by
   unfold takeT
   rw [if_pos hh,hx]
  rw [ht]
  exact hk _ (List.getElem_mem hlt) hkd
 ·exact ⟨_,rfl⟩
theorem room_fw {l : List Tok} {s : RS} (hs : s.at_ ≤ l.length) (v : Int) : Fw l s (roomR s v):=⟨hs,Nat.le_refl _,id⟩
section
variable {l : List Tok} {n r : Nat} {ex : RS → Option (Ex × RS)} {inner : Blk}
theorem let_tot (hex : TotP l ex r) (hn : r < n) : TotF l (letQ l n ex) r:=fun s hs hr=>by
 unfold letQ
 split
 ·have f1:=take_fw hs 3 (s:=s)
  have f2:=must_fw [(⟨#[123]⟩ : ByteArray)] _ f1.le
  have m:=(f1.trans f2).mu
  obtain ⟨y,s2,j1,j2,j3⟩:=list_tot (r:=r) (name_tot r) (⟨#[125]⟩ : ByteArray) n hn _ f2.le (by omega)
  have f3:=must_fw [(⟨#[61]⟩ : ByteArray)] _ j2.le
  have m3:=(j2.trans f3).mu
  obtain ⟨z,s3,k1,k2,k3⟩:=hex _ f3.le (by omega)
  have f4:=must_fw [(⟨#[59]⟩ : ByteArray)] _ k2.le
  exact ⟨_,_,by rw [j1]; simp only; rw [k1]; rfl,((((f1.trans f2).trans j2).trans f3).trans k2).trans f4⟩
 ·have f1:=take_fw hs 2 (s:=s)
  have f2:=must_fw [(⟨#[61]⟩ : ByteArray)] _ f1.le
  have m:=(f1.trans f2).mu
  obtain ⟨z,s3,k1,k2,k3⟩:=lent_tot (r:=r) (n:=n) hex hn _ f2.le (by omega)
  have f4:=must_fw [(⟨#[59]⟩ : ByteArray)] _ k2.le
  exact ⟨_,_,by rw [k1]; rfl,((f1.trans f2).trans k2).trans f4⟩
theorem drop_tot : TotF l (dropQ l) r:=fun s hs hr=>by
 have f1:=take_fw hs 2 (s:=s)
 exact ⟨_,_,rfl,f1.trans (must_fw [(⟨#[59]⟩ : ByteArray)] _ f1.le)⟩
theorem block_tot (hin : TotF l inner r) : TotF l (blockQ l inner) r:=fun s hs hr=>by
 unfold blockQ
 have f1:=must_fw [(⟨#[123]⟩ : ByteArray)] _ hs
 have m:=f1.mu
 obtain ⟨z,s3,k1,k2⟩:=hin _ f1.le (by omega)
 exact ⟨z,s3,k1,f1.trans k2⟩
theorem while_tot (hex : TotP l ex r) (hin : TotF l inner r) : TotF l (whileQ l ex inner) r:=fun s hs hr=>by
 unfold whileQ
 obtain ⟨y,s2,j1,j2,j3⟩:=hex _ hs hr
 have m:=j2.mu
 obtain ⟨z,s3,k1,k2⟩:=block_tot (r:=r) hin _ j2.le (by omega)
 exact ⟨_,s3,by rw [j1]; simp only; rw [k1]; rfl,j2.trans k2⟩
theorem branch_tot (hex : TotP l ex r) (hin : TotF l inner r) : TotF l (branchQ l ex inner) r:=fun s hs hr=>by
 unfold branchQ
 obtain ⟨y,s2,j1,j2,j3⟩:=hex _ hs hr
 have m:=j2.mu
 obtain ⟨z,s3,k1,k2⟩:=block_tot (r:=r) hin _ j2.le (by omega)
 have m2:=k2.mu
 rw [j1]
 simp only
 rw [k1]
 simp only
 split
 ·have f3:=may_fw k2.le (⟨#[101,108,115,101]⟩ : ByteArray)
  have m3:=f3.mu
  obtain ⟨w,s4,i1,i2⟩:=block_tot (r:=r) hin _ f3.le (by omega)
  exact ⟨_,s4,by rw [i1]; rfl,((j2.trans k2).trans f3).trans i2⟩
 ·exact ⟨_,s3,rfl,j2.trans k2⟩
theorem scope_tot (hin : TotF l inner r) : TotF l (scopeQ l inner) r:=fun s hs hr=>by
 unfold scopeQ
 obtain ⟨z,s3,k1,k2⟩:=block_tot (r:=r) hin _ hs hr
 exact ⟨_,s3,by rw [k1]; rfl,k2⟩
theorem plain_tot (hin : TotF l inner r) : TotF l (plainQ inner) r:=fun s hs hr=>by
 unfold plainQ
 obtain ⟨z,s3,k1,k2⟩:=hin _ hs hr
 exact ⟨_,s3,by rw [k1]; rfl,k2⟩
theorem lock_tot (hin : TotF l inner r) (hn : r < n) : TotF l (lockQ l n inner) r:=fun s hs hr=>by
 unfold lockQ
 obtain ⟨y,s2,j1,j2,j3⟩:=path_tot n r hn s hs hr
 have f1:=must_fw [(⟨#[97,115]⟩ : ByteArray)] _ j2.le
 have f2:=take_fw f1.le 2
 have m:=((j2.trans f1).trans f2).mu
 obtain ⟨z,s3,k1,k2⟩:=block_tot (r:=r) hin _ f2.le (by omega)
 exact ⟨_,s3,by rw [j1]; simp only; rw [k1]; rfl,((j2.trans f1).trans f2).trans k2⟩
theorem arm_tot (hin : TotF l inner r) : TotP l (armQ l inner) r:=fun s hs hr=>by
 unfold armQ
 have f1:=take_fw hs 3 (s:=s)
 have p1:=take_pg (l:=l) s 3
 simp only
 split
 ·have f2:=may_fw f1.le (⟨#[40]⟩ : ByteArray)
  have f3:=take_fw f2.le 2
  have f4:=must_fw [(⟨#[41]⟩ : ByteArray)] _ f3.le
  have f5:=must_fw [(⟨#[61,62]⟩ : ByteArray)] _ f4.le
  have g:=((f2.trans f3).trans f4).trans f5
  have m:=(f1.trans g).mu
  obtain ⟨z,s3,k1,k2⟩:=block_tot (r:=r) hin _ f5.le (by omega)
  exact ⟨_,s3,by rw [k1]; rfl,(f1.trans g).trans k2,p1.left (g.trans k2)⟩
 ·have f2:=must_fw [(⟨#[61,62]⟩ : ByteArray)] _ f1.le
  have m:=(f1.trans f2).mu
  obtain ⟨z,s3,k1,k2⟩:=block_tot (r:=r) hin _ f2.le (by omega)
  exact ⟨_,s3,by rw [k1]; rfl,(f1.trans f2).trans k2,p1.left (f2.trans k2)⟩
theorem arms_tot (hin : TotF l inner r) : ∀ (n : Nat) (acc : List Ar) (s : RS),s.at_ ≤ l.length → mu l s < n → mu l s ≤ r → ∃ x s',armsQ l inner n acc s = some (x,s') ∧ Fw l s s'
 | 0,acc,s,_,h,_=>by omega
 | n + 1,acc,s,hs,h,hr=>by
  unfold armsQ
  split
  ·exact ⟨_,_,rfl,.refl hs⟩
  rename_i hb0
  have hb : s.bad = false:=by simpa using hb0
  split
  ·exact ⟨_,_,rfl,may_fw hs _⟩
  ·obtain ⟨y,s2,j1,j2,j3⟩:=arm_tot (r:=r) hin s hs hr
   have m:=j3.mu j2 hb
   obtain ⟨z,s3,k1,k2⟩:=arms_tot hin n (acc ++ [y]) s2 j2.le (by omega) (by omega)
   exact ⟨z,s3,by rw [j1]; exact k1,j2.trans k2⟩
theorem match_tot (hin : TotF l inner r) (hn : r < n) : TotF l (matchQ l n inner) r:=fun s hs hr=>by
 unfold matchQ
 have f1:=take_fw hs 2 (s:=s)
 have f2:=must_fw [(⟨#[58]⟩ : ByteArray)] _ f1.le
 have f3:=take_fw f2.le 3
 have f4:=must_fw [(⟨#[123]⟩ : ByteArray)] _ f3.le
 have g:=((f1.trans f2).trans f3).trans f4
 have m:=g.mu
 obtain ⟨z,s3,k1,k2⟩:=arms_tot hin n [] _ f4.le (by omega) (by omega)
 simp only
 exact ⟨_,_,by rw [k1]; rfl,(g.trans k2).trans (few_fw k2.le z.length)⟩
theorem spawn_tot (hex : TotP l ex r) (hin : TotF l inner r) (hn : r < n) : TotF l (spawnQ l n ex inner) r:=fun s hs hr=>by
 unfold spawnQ
 have f1:=must_fw [(⟨#[40]⟩ : ByteArray)] _ hs
 have m:=f1.mu
 obtain ⟨y,s2,j1,j2,j3⟩:=list_tot (r:=r) (hand_tot (r:=r) (lent_tot (r:=r) (n:=n) hex hn)) (⟨#[41]⟩ : ByteArray) n hn _ f1.le (by omega)
 have m2:=j2.mu
 obtain ⟨z,s3,k1,k2⟩:=block_tot (r:=r) hin _ j2.le (by omega)
 exact ⟨_,s3,by rw [j1]; simp only; rw [k1]; rfl,(f1.trans j2).trans k2⟩
theorem chan_tot (hk : NumsOk l) (hn : r < n) : TotF l (chanQ l n) r:=fun s hs hr=>by
 unfold chanQ
 have f1:=must_fw [(⟨#[60]⟩ : ByteArray)] _ hs
 have m:=f1.mu
 obtain ⟨t,s1,j1,j2,j3⟩:=kind_tot n _ f1.le (by omega)
 have f2:=must_fw [(⟨#[62]⟩ : ByteArray),(⟨#[40]⟩ : ByteArray)] _ j2.le
 obtain ⟨v,hv⟩:=numV_tot hk (mustP l s1 [(⟨#[62]⟩ : ByteArray),(⟨#[40]⟩ : ByteArray)])
 have f3:=take_fw f2.le 4
 have f4:=room_fw f3.le v
 have f5:=must_fw [(⟨#[41]⟩ : ByteArray),(⟨#[97,115]⟩ : ByteArray)] _ f4.le
 have f6:=take_fw f5.le 2
 have f7:=must_fw [(⟨#[44]⟩ : ByteArray)] _ f6.le
 have f8:=take_fw f7.le 2
 have f9:=must_fw [(⟨#[59]⟩ : ByteArray)] _ f8.le
 rw [j1]
 simp only
 rw [hv]
 exact ⟨_,_,rfl,(((((((((f1.trans j2).trans f2).trans f3).trans f4).trans f5).trans f6).trans f7).trans f8).trans f9)⟩
theorem word_tot (hk : NumsOk l) (hex : TotP l ex r) (hin : TotF l inner r) (hn : r < n) (w : ByteArray) (s : RS) (hs : s.at_ ≤ l.length) (hr : mu l s ≤ r) : wordQ l n ex inner w s = none ∨ ∃ st s',wordQ l n ex inner w s = some (some (st,s')) ∧ Fw l s s':=by
 have go : ∀ {f : RS → Option (St × RS)},TotF l f r → ∃ st s',some (f s) = some (some (st,s')) ∧ Fw l s s':=fun h=>by
  obtain ⟨x,s',a,b⟩:=h s hs hr
  exact ⟨x,s',by rw [a],b⟩
 unfold wordQ
 by_cases h0 : sEq w (⟨#[108,101,116]⟩ : ByteArray) = true
 ·rw [if_pos h0]; exact .inr (go (let_tot hex hn))
 rw [if_neg h0]
 by_cases h1 : sEq w (⟨#[100,114,111,112]⟩ : ByteArray) = true
 ·rw [if_pos h1]; exact .inr (go (drop_tot))
 rw [if_neg h1]
 by_cases h2 : sEq w (⟨#[105,102]⟩ : ByteArray) = true
 ·rw [if_pos h2]; exact .inr (go (branch_tot hex hin))
 rw [if_neg h2]
 by_cases h3 : sEq w (⟨#[119,104,105,108,101]⟩ : ByteArray) = true
 ·rw [if_pos h3]; exact .inr (go (while_tot hex hin))
 rw [if_neg h3]
 by_cases h4 : sEq w (⟨#[109,97,116,99,104]⟩ : ByteArray) = true
 ·rw [if_pos h4]; exact .inr (go (match_tot hin hn))
 rw [if_neg h4]
 by_cases h5 : sEq w (⟨#[115,99,111,112,101]⟩ : ByteArray) = true
 ·rw [if_pos h5]; exact .inr (go (scope_tot hin))
 rw [if_neg h5]
 by_cases h6 : sEq w (⟨#[115,112,97,119,110]⟩ : ByteArray) = true
 ·rw [if_pos h6]; exact .inr (go (spawn_tot hex hin hn))
 rw [if_neg h6]
 by_cases h7 : sEq w (⟨#[108,111,99,107]⟩ : ByteArray) = true
 ·rw [if_pos h7]; exact .inr (go (lock_tot hin hn))
 rw [if_neg h7]
 by_cases h8 : sEq w (⟨#[99,104,97,110]⟩ : ByteArray) = true
 ·rw [if_pos h8]; exact .inr (go (chan_tot hk hn))
 rw [if_neg h8]
 by_cases h9 : sEq w (⟨#[123]⟩ : ByteArray) = true
 ·rw [if_pos h9]; exact .inr (go (plain_tot hin))
 rw [if_neg h9]
 exact .inl rfl
def StepT (l : List Tok) (s : RS) (o : Option (Option St × RS)) : Prop:=o = some (none,s) ∨ ∃ st s',o = some (some st,s') ∧ Fw l s s' ∧ Pg s s'
theorem first_tot (hk : NumsOk l) (hex : TotP l ex r) (hin : TotF l inner r) (hn : r < n) (s : RS) (hs : s.at_ ≤ l.length) (hr : mu l s ≤ r + 1) : StepT l s (firstQ l n ex inner s):=by
 unfold firstQ
 split
 ·exact .inl rfl
 rename_i hb0
 have hb : s.bad = false:=by simpa using hb0
 cases hx : l[s.at_]? with
 | none=>exact .inl rfl
 | some x =>
 have hlt:=(List.getElem?_eq_some_iff.1 hx).1
 have f0 : Fw l s ⟨s.at_ + 1,s.bad,s.full⟩:=⟨hlt,Nat.le_succ _,id⟩
 have p0 : Pg s ⟨s.at_ + 1,s.bad,s.full⟩:=fun _=>Nat.lt_succ_self _
 have m0:=p0.mu f0 hb
 simp only
 rcases word_tot hk hex hin hn x.text ⟨s.at_ + 1,s.bad,s.full⟩ f0.le (by omega) with h | ⟨st,s',h,h2⟩
 ·rw [h]; exact .inl rfl
 ·rw [h]; exact .inr ⟨_,s',rfl,f0.trans h2,p0.left h2⟩
theorem assign_tot (hex : TotP l ex r) (hn : r + 1 < n) (s : RS) (hs : s.at_ ≤ l.length) (hr : mu l s ≤ r + 1) : StepT l s (assignQ l n ex s):=by
 unfold assignQ
 split
 ·exact .inl rfl
 rename_i hb0
 have hb : s.bad = false:=by simpa using hb0
 cases hx : l[s.at_]? with
 | none=>exact .inl rfl
 | some x =>
 simp only
 split
 ·obtain ⟨y,s2,j1,j2,j3⟩:=path_tot n (r + 1) hn s hs hr
  have m:=j3.mu j2 hb
  rw [j1]
  simp only
  split
  ·rename_i hq
   have f1:=may_fw j2.le (⟨#[61]⟩ : ByteArray)
   have m1:=f1.mu
   obtain ⟨z,s3,k1,k2,k3⟩:=hex _ f1.le (by omega)
   have f4:=must_fw [(⟨#[59]⟩ : ByteArray)] _ k2.le
   exact .inr ⟨_,_,by rw [k1]; rfl,((j2.trans f1).trans k2).trans f4,j3.left ((f1.trans k2).trans f4)⟩
  ·exact .inl rfl
 ·exact .inl rfl
theorem step_tot (hk : NumsOk l) (hex : TotP l ex r) (hin : TotF l inner r) (hn : r + 1 < n) (s : RS) (hs : s.at_ ≤ l.length) (hr : mu l s ≤ r + 1) : StepT l s (stepQ l n ex inner s):=by
 unfold stepQ
 rcases first_tot (r:=r) (n:=n) hk hex hin (by omega) s hs hr with h | ⟨st,s',h,h2,h3⟩
 ·rw [h]; exact assign_tot (r:=r) hex hn s hs hr
 ·rw [h]; exact .inr ⟨st,s',rfl,h2,h3⟩
end
theorem inner_tot {l : List Tok} (hk : NumsOk l) : ∀ (n r : Nat),20 * r + 20 ≤ n → ∀ (acc : List St) (s : RS),s.at_ ≤ l.length → mu l s ≤ r → ∃ x s',innerQ l n acc s = some (x,s') ∧ Fw l s s':=by
 intro n
 induction n with
 | zero=>intro r h; omega
 | succ n ih =>
 intro r h acc s hs hr
 unfold innerQ
 split
 ·exact ⟨_,_,rfl,.refl hs⟩
 rename_i hb0
 have hb : s.bad = false:=by simpa using hb0
 have hr0 : 0 < r:=by rw [mu_good hb] at hr; omega
 obtain ⟨r',rfl⟩ : ∃ r',r = r' + 1:=⟨r - 1,by omega⟩
 split
 ·exact ⟨_,_,rfl,may_fw hs _⟩
 have hx:=strong_tot hk n 6 (r' + 1) (by omega) (by omega)
 rcases step_tot (r:=r') (n:=n) hk (hx.le (by omega)) (fun s hs hr=>ih r' (by omega) [] s hs hr) (by omega) s hs hr with h1 | ⟨st,s1,h1,h2,h3⟩
 ·rw [h1]
  simp only
  obtain ⟨y,s2,j1,j2,j3⟩:=hx s hs hr
  have m:=j3.mu j2 hb
  have f3:=must_fw [(⟨#[59]⟩ : ByteArray)] _ j2.le
  have m3:=f3.mu
  obtain ⟨z,s3,k1,k2⟩:=ih r' (by omega) (acc ++ [(st0 4 emS emS [y] [] []).at (placeP l s)]) _ f3.le (by omega)
  exact ⟨z,s3,by rw [j1]; exact k1,(j2.trans f3).trans k2⟩
 ·rw [h1]
  simp only
  have m:=h3.mu h2 hb
  obtain ⟨z,s3,k1,k2⟩:=ih r' (by omega) (acc ++ [st]) s1 h2.le (by omega)
  exact ⟨z,s3,k1,h2.trans k2⟩
theorem body_tot {l : List Tok} (hk : NumsOk l) : ∀ (n r : Nat),20 * r + 20 ≤ n → ∀ (acc : List St) (s : RS),s.at_ ≤ l.length → mu l s ≤ r → ∃ x s',bodyQ l n acc s = some (x,s') ∧ Fw l s s':=by
 intro n
 induction n with
 | zero=>intro r h; omega
 | succ n ih =>
 intro r h acc s hs hr
 unfold bodyQ
 split
 ·exact ⟨_,_,rfl,.refl hs⟩
 rename_i hb0
 have hb : s.bad = false:=by simpa using hb0
 have hr0 : 0 < r:=by rw [mu_good hb] at hr; omega
 obtain ⟨r',rfl⟩ : ∃ r',r = r' + 1:=⟨r - 1,by omega⟩
 have hx:=strong_tot hk n 6 (r' + 1) (by omega) (by omega)
 rcases step_tot (r:=r') (n:=n) hk (hx.le (by omega)) (fun s hs hr=>inner_tot hk n r' (by omega) [] s hs hr) (by omega) s hs hr with h1 | ⟨st,s1,h1,h2,h3⟩
 ·rw [h1]
  simp only
  obtain ⟨y,s2,j1,j2,j3⟩:=hx s hs hr
  have m:=j3.mu j2 hb
  rw [j1]
  simp only
  split
  ·exact ⟨_,s2,rfl,j2⟩
  ·have f3:=must_fw [(⟨#[59]⟩ : ByteArray)] _ j2.le
   have m3:=f3.mu
   obtain ⟨z,s3,k1,k2⟩:=ih r' (by omega) (acc ++ [(st0 4 emS emS [y] [] []).at (placeP l s)]) _ f3.le (by omega)
   exact ⟨z,s3,k1,(j2.trans f3).trans k2⟩
 ·rw [h1]
  simp only
  have m:=h3.mu h2 hb
  obtain ⟨z,s3,k1,k2⟩:=ih r' (by omega) (acc ++ [st]) s1 h2.le (by omega)
  exact ⟨z,s3,k1,h2.trans k2⟩
theorem field_tot {l : List Tok} (n r : Nat) (hn : r < n) : TotP l (fieldP l n) r:=fun s hs hr=>by
 unfold fieldP
 have f1:=take_fw hs 2 (s:=s)
 have f2:=must_fw [(⟨#[58]⟩ : ByteArray)] _ f1.le
 have m:=(f1.trans f2).mu
 obtain ⟨t,s1,j1,j2,j3⟩:=kind_tot n _ f2.le (by omega)
 exact ⟨_,s1,by rw [j1]; rfl,(f1.trans f2).trans j2,(take_pg s 2).left (f2.trans j2)⟩
theorem variant_tot {l : List Tok} (n r : Nat) (hn : r < n) : TotP l (variantP l n) r:=fun s hs hr=>by
 unfold variantP
 have f1:=take_fw hs 3 (s:=s)
 have p1:=take_pg (l:=l) s 3
 simp only
 split
 ·have f2:=may_fw f1.le (⟨#[40]⟩ : ByteArray)
  have m:=(f1.trans f2).mu
  obtain ⟨t,s1,j1,j2,j3⟩:=kind_tot n _ f2.le (by omega)
  have f3:=must_fw [(⟨#[41]⟩ : ByteArray)] _ j2.le
  exact ⟨_,_,by rw [j1]; rfl,((f1.trans f2).trans j2).trans f3,p1.left ((f2.trans j2).trans f3)⟩
 ·exact ⟨_,_,rfl,f1,p1⟩
theorem item_tot {l : List Tok} (hk : NumsOk l) (n r : Nat) (hn : 20 * r + 20 ≤ n) : TotP l (itemQ l n) r:=fun s hs hr=>by
 have data : ∀ (t : ByteArray) (rd : RS → Option (Fi × RS)),TotP l rd r → isP l s t 0 = true → ∃ x s',listP l rd (⟨#[125]⟩ : ByteArray) n (mustP l (takeP l (mayP l s t) 3) [(⟨#[123]⟩ : ByteArray)]) = some (x,s') ∧ Fw l s s' ∧ Pg s s':=fun t rd hrd hi=>by
  have f1:=may_fw hs t
  have p1 : Pg s (mayP l s t):=fun _=>(may_pg hi).1
  have f2:=take_fw f1.le 3
  have f3:=must_fw [(⟨#[123]⟩ : ByteArray)] _ f2.le
  have m:=((f1.trans f2).trans f3).mu
  obtain ⟨y,s2,j1,j2,j3⟩:=list_tot (r:=r) hrd (⟨#[125]⟩ : ByteArray) n (by omega) _ f3.le (by omega)
  exact ⟨y,s2,j1,((f1.trans f2).trans f3).trans j2,p1.left ((f2.trans f3).trans j2)⟩
 unfold itemQ
 split
 ·rename_i hi
  obtain ⟨y,s2,j1,j2,j3⟩:=data (⟨#[115,116,114,117,99,116]⟩ : ByteArray) _ (field_tot n r (by omega)) hi
  unfold itemP
  rw [if_pos hi]
  exact ⟨_,s2,by dsimp only; rw [j1]; rfl,j2,j3⟩
 split
 ·rename_i h0 hi
  obtain ⟨y,s2,j1,j2,j3⟩:=data (⟨#[101,110,117,109]⟩ : ByteArray) _ (variant_tot n r (by omega)) hi
  unfold itemP
  rw [if_neg h0,if_pos hi]
  exact ⟨_,s2,by dsimp only; rw [j1]; rfl,j2,j3⟩
 ·have f1:=must_fw [(⟨#[102,110]⟩ : ByteArray)] _ hs
  have p1:=must_pg (⟨#[102,110]⟩ : ByteArray) [] s hs
  have f2:=take_fw f1.le 2
  have f3:=must_fw [(⟨#[40]⟩ : ByteArray)] _ f2.le
  have m:=((f1.trans f2).trans f3).mu
  obtain ⟨y,s2,j1,j2,j3⟩:=list_tot (r:=r) (field_tot n r (by omega)) (⟨#[41]⟩ : ByteArray) n (by omega) _ f3.le (by omega)
  have f4:=must_fw [(⟨#[45,62]⟩ : ByteArray)] _ j2.le
  have m4:=(j2.trans f4).mu
  obtain ⟨t,s3,k1,k2,k3⟩:=kind_tot n _ f4.le (by omega)
  have f5:=must_fw [(⟨#[123]⟩ : ByteArray)] _ k2.le
  have m5:=(k2.trans f5).mu
  obtain ⟨b,s4,i1,i2⟩:=body_tot hk n r hn [] _ f5.le (by omega)
  have f6:=must_fw [(⟨#[125]⟩ : ByteArray)] _ i2.le
  have g:=(((((f2.trans f3).trans j2).trans f4).trans k2).trans f5).trans (i2.trans f6)
  obtain ⟨b1,b2⟩:=b
  exact ⟨_,_,by rw [j1]; simp only; rw [k1]; simp only; rw [i1],f1.trans g,p1.left g⟩
theorem items_tot {l : List Tok} (hk : NumsOk l) (n r : Nat) (hn : 20 * r + 20 ≤ n) : ∀ (f : Nat) (acc : List It) (s : RS),s.at_ ≤ l.length → mu l s < f → mu l s ≤ r → ∃ x s',itemsQ l n f acc s = some (x,s') ∧ Fw l s s' ∧ (s'.bad = true ∨ s'.at_ = l.length)
 | 0,acc,s,_,h,_=>by omega
 | f + 1,acc,s,hs,h,hr=>by
  unfold itemsQ
  split
  ·rename_i hgo
   obtain ⟨y,s2,j1,j2,j3⟩:=item_tot hk n r hn s hs hr
   have m:=j3.mu j2 hgo.2
   obtain ⟨z,s3,k1,k2,k3⟩:=items_tot hk n r hn f (acc ++ [y]) s2 j2.le (by omega) (by omega)
   exact ⟨z,s3,by rw [j1]; exact k1,j2.trans k2,k3⟩
  ·rename_i hgo
   refine ⟨_,_,rfl,.refl hs,?_⟩
   cases hb : s.bad with
   | true=>exact .inl rfl
   | false =>
    right
    have : ¬ s.at_ < l.length:=fun hh=>hgo ⟨hh,hb⟩
    omega
end Go.Proofs.YtfiohepfohhibaaDoor
namespace Go.Proofs.YtfiohepfohhibaaDoor
open Go.RowKit
structure TokSm (l : List Tok) : Prop where
 len : l.length ≤ 1500
 text : ∀ t ∈ l,t.text.size ≤ 4000
def Res {α : Type} (l : List Tok) (f : RS → Option (α × RS)) (P : α → Prop) : Prop:=∀ (s : RS) (x : α) (s' : RS),s.at_ ≤ l.length → f s = some (x,s') → P x ∧ s.at_ ≤ s'.at_ ∧ s'.at_ ≤ l.length
theorem Res.mono {α : Type} {l : List Tok} {f : RS → Option (α × RS)} {P Q : α → Prop} (h : Res l f P) (k : ∀ x,P x → Q x) : Res l f Q:=fun s x s' hs e=>⟨k x (h s x s' hs e).1,(h s x s' hs e).2⟩
theorem text_sm {l : List Tok} (hl : TokSm l) (s : RS) (k : Int) : (takeT l s k).size ≤ 4000:=by
 unfold takeT
 split
 ·cases hx : l[s.at_]? with
  | none=>show emS.size ≤ 4000; decide
  | some x=>exact hl.text x (List.mem_of_getElem? hx)
 ·show emS.size ≤ 4000; decide
theorem emS_le : emS.size ≤ 20000:=by decide
theorem zeroT_sm : TySm zeroT:=.mk _ emS_le (Nat.zero_le _) nofun
theorem zeroX_sm : ExSm zeroX:=.mk _ emS_le emS_le ⟨emS_le,Nat.zero_le _,nofun⟩ (Nat.zero_le _) nofun
section
variable {l : List Tok} (hl : TokSm l)
include hl
theorem kind_sm : ∀ (n : Nat) (s : RS) (t : Ty) (s' : RS),s.at_ ≤ l.length → kindP l n s = some (t,s') → TySm t ∧ s.at_ ≤ s'.at_ ∧ s'.at_ ≤ l.length
 | 0,s,t,s',_,h=>by simp [kindP] at h
 | n + 1,s,t,s',hs,h=>by
  unfold kindP at h
  split at h
  ·dsimp only at h
   obtain ⟨⟨u,s1⟩,hk,he⟩:=Option.map_eq_some_iff.1 h
   cases he
   have f1:=may_fw hs (⟨#[38]⟩ : ByteArray)
   have f2:=may_fw f1.le (⟨#[109,117,116]⟩ : ByteArray)
   obtain ⟨k1,k2,k3⟩:=kind_sm n _ u s1 f2.le hk
   refine ⟨.mk _ emS_le (by show 1 ≤ 20000; decide) fun x hx=>?_,Nat.le_trans (f1.trans f2).up k2,k3⟩
   obtain rfl : x = u:=by simpa [Ty.args] using hx
   exact k1
  split at h
  ·cases h
   exact ⟨.mk _ (Nat.le_trans (text_sm hl s 3) (by decide)) (Nat.zero_le _) nofun,(take_fw hs 3).up,(take_fw hs 3).le⟩
  split at h
  ·cases h
   exact ⟨.mk _ emS_le (Nat.zero_le _) nofun,(take_fw hs 1).up,(take_fw hs 1).le⟩
  split at h
  ·cases h
   exact ⟨zeroT_sm,Nat.le_refl _,hs⟩
  ·obtain ⟨⟨u,s1⟩,hk,he⟩:=Option.map_eq_some_iff.1 h
   cases he
   have f1:=take_fw hs 1 (s:=s)
   have f2:=must_fw [(⟨#[60]⟩ : ByteArray)] _ f1.le
   obtain ⟨k1,k2,k3⟩:=kind_sm n _ u s1 f2.le hk
   have f3:=must_fw [(⟨#[62]⟩ : ByteArray)] _ k3
   refine ⟨.mk _ emS_le (by show 1 ≤ 20000; decide) fun x hx=>?_,Nat.le_trans (Nat.le_trans (f1.trans f2).up k2) f3.up,f3.le⟩
   obtain rfl : x = u:=by simpa [Ty.args] using hx
   exact k1
omit hl in
theorem listL_res {α : Type} {rd : RS → Option (α × RS)} {P : α → Prop} (hrd : Res l rd P) : ∀ (n : Nat) (acc : List α) (s : RS) (xs : List α) (s' : RS),s.at_ ≤ l.length → (∀ x ∈ acc,P x) → listL l rd n acc s = some (xs,s') → (∀ x ∈ xs,P x) ∧ xs.length + s.at_ ≤ acc.length + s'.at_ ∧ s.at_ ≤ s'.at_ ∧ s'.at_ ≤ l.length
 | 0,acc,s,xs,s',_,_,h=>by simp [listL] at h
 | n + 1,acc,s,xs,s',hs,ha,h=>by
  unfold listL at h
  split at h
  ·rename_i hi
   have f1:=may_fw hs (⟨#[44]⟩ : ByteArray)
   have p1:=(may_pg hi).1
   cases hr : rd (mayP l s (⟨#[44]⟩ : ByteArray)) with
   | none=>rw [hr] at h; cases h
   | some y =>
    obtain ⟨x,s1⟩:=y
    rw [hr] at h
    obtain ⟨k1,k2,k3⟩:=hrd _ x s1 f1.le hr
    obtain ⟨j1,j2,j3,j4⟩:=listL_res hrd n (acc ++ [x]) s1 xs s' k3 (fun z hz=>by
     rcases List.mem_append.1 hz with h | h
     ·exact ha z h
     ·obtain rfl : z = x:=by simpa using h
      exact k1) h
    rw [List.length_append,List.length_singleton] at j2
    exact ⟨j1,by omega,by omega,j4⟩
  ·cases h
   exact ⟨ha,Nat.le_refl _,Nat.le_refl _,hs⟩
theorem list_res {α : Type} {rd : RS → Option (α × RS)} {P : α → Prop} (hrd : Res l rd P) (e : ByteArray) (n : Nat) : Res l (listP l rd e n) fun xs=>(∀ x ∈ xs,P x) ∧ xs.length ≤ 20000:=fun s xs s' hs h=>by
 have hll:=hl.len
 unfold listP at h
 split at h
 ·cases h
  have f:=may_fw hs e
  exact ⟨⟨nofun,Nat.zero_le _⟩,f.up,f.le⟩
 ·cases hr : rd s with
  | none=>rw [hr] at h; cases h
  | some y =>
   obtain ⟨x,s1⟩:=y
   rw [hr] at h
   obtain ⟨k1,k2,k3⟩:=hrd s x s1 hs hr
   obtain ⟨⟨ys,s2⟩,hL,he⟩:=Option.map_eq_some_iff.1 h
   cases he
   obtain ⟨j1,j2,j3,j4⟩:=listL_res hrd n [x] s1 ys s2 k3 (fun z hz=>by
    obtain rfl : z = x:=by simpa using hz
    exact k1) hL
   have f3:=must_fw [e] _ j4
   have f4:=few_fw f3.le ys.length
   rw [List.length_singleton] at j2
   exact ⟨⟨j1,by show ys.length ≤ 20000; omega⟩,Nat.le_trans (Nat.le_trans k2 j3) (f3.trans f4).up,f4.le⟩
theorem pathL_res : ∀ (n : Nat) (acc : List ByteArray) (s : RS) (xs : List ByteArray) (s' : RS),s.at_ ≤ l.length → (∀ x ∈ acc,x.size ≤ 20000) → pathL l n acc s = some (xs,s') → (∀ x ∈ xs,x.size ≤ 20000) ∧ xs.length + s.at_ ≤ acc.length + s'.at_ ∧ s.at_ ≤ s'.at_ ∧ s'.at_ ≤ l.length
 | 0,acc,s,xs,s',_,_,h=>by simp [pathL] at h
 | n + 1,acc,s,xs,s',hs,ha,h=>by
  unfold pathL at h
  split at h
  ·rename_i hi
   have f1:=may_fw hs (⟨#[46]⟩ : ByteArray)
   have p1:=(may_pg hi).1
   have step : ∀ (t : ByteArray) (s1 : RS),t.size ≤ 20000 → Fw l (mayP l s (⟨#[46]⟩ : ByteArray)) s1 → pathL l n (acc ++ [t]) s1 = some (xs,s') → (∀ x ∈ xs,x.size ≤ 20000) ∧ xs.length + s.at_ ≤ acc.length + s'.at_ ∧ s.at_ ≤ s'.at_ ∧ s'.at_ ≤ l.length:=fun t s1 ht f h=>by
    have fu:=f.up
    obtain ⟨j1,j2,j3,j4⟩:=pathL_res n (acc ++ [t]) s1 xs s' f.le (fun z hz=>by
     rcases List.mem_append.1 hz with h | h
     ·exact ha z h
     ·obtain rfl : z = t:=by simpa using h
      exact ht) h
    rw [List.length_append,List.length_singleton] at j2
    exact ⟨j1,by omega,by omega,j4⟩
   dsimp only at h
   split at h
   ·exact step _ _ (by decide) (may_fw f1.le (⟨#[42]⟩ : ByteArray)) h
   ·exact step _ _ (Nat.le_trans (text_sm hl _ 2) (by decide)) (take_fw f1.le 2) h
  ·cases h
   exact ⟨ha,Nat.le_refl _,Nat.le_refl _,hs⟩
theorem path_res (n : Nat) : Res l (pathP l n) PlSm:=fun s x s' hs h=>by
 have hll:=hl.len
 unfold pathP at h
 obtain ⟨⟨ys,s2⟩,hL,he⟩:=Option.map_eq_some_iff.1 h
 cases he
 have f1:=take_fw hs 2 (s:=s)
 obtain ⟨j1,j2,j3,j4⟩:=pathL_res hl n [] _ ys s2 f1.le nofun hL
 have fu:=f1.up
 refine ⟨⟨Nat.le_trans (text_sm hl s 2) (by decide),?_,j1⟩,Nat.le_trans fu j3,j4⟩
 show ys.length ≤ 20000
 simp only [List.length_nil] at j2
 omega
omit hl in
theorem ex_mk {op int pos : Int} {nm sc : ByteArray} {pl : Pl} {xs : List Ex} (h1 : nm.size ≤ 20000) (h2 : sc.size ≤ 20000) (h3 : PlSm pl) (h4 : xs.length ≤ 20000) (h5 : ∀ x ∈ xs,ExSm x) : ExSm (.mk op int nm sc pl xs pos):=.mk _ h1 h2 h3 h4 h5
omit hl in
theorem zeroPl_sm : PlSm zeroPl:=⟨emS_le,Nat.zero_le _,nofun⟩
omit hl in
theorem ex_one {op int pos : Int} {nm sc : ByteArray} {pl : Pl} {x : Ex} (h1 : nm.size ≤ 20000) (h2 : sc.size ≤ 20000) (h3 : PlSm pl) (h : ExSm x) : ExSm (.mk op int nm sc pl [x] pos):=ex_mk h1 h2 h3 (by show 1 ≤ 20000; decide) fun y hy=>by
 obtain rfl : y = x:=by simpa using hy
 exact h
theorem text_le (s : RS) (k : Int) : (takeT l s k).size ≤ 20000:=Nat.le_trans (text_sm hl s k) (by decide)
theorem lent_res {rd : RS → Option (Ex × RS)} (hrd : Res l rd ExSm) (n : Nat) : Res l (lentQ l n rd) ExSm:=fun s x s' hs h=>by
 unfold lentQ at h
 split at h
 ·have f1:=may_fw hs (⟨#[38]⟩ : ByteArray)
  have f2:=may_fw f1.le (⟨#[109,117,116]⟩ : ByteArray)
  obtain ⟨⟨u,s1⟩,hk,he⟩:=Option.map_eq_some_iff.1 h
  cases he
  obtain ⟨k1,k2,k3⟩:=path_res hl n _ u s1 f2.le hk
  exact ⟨ex_mk emS_le emS_le k1 (Nat.zero_le _) nofun,Nat.le_trans (f1.trans f2).up k2,k3⟩
 ·exact hrd s x s' hs h
theorem hand_res {rd : RS → Option (Ex × RS)} (hrd : Res l rd ExSm) : Res l (handQ l rd) fun r=>r.1.size ≤ 20000 ∧ ExSm r.2:=fun s x s' hs h=>by
 unfold handQ at h
 have f1:=take_fw hs 2 (s:=s)
 have f2:=must_fw [(⟨#[61]⟩ : ByteArray)] _ f1.le
 obtain ⟨⟨u,s1⟩,hk,he⟩:=Option.map_eq_some_iff.1 h
 cases he
 obtain ⟨k1,k2,k3⟩:=hrd _ u s1 f2.le hk
 exact ⟨⟨text_le hl s 2,k1⟩,Nat.le_trans (f1.trans f2).up k2,k3⟩
theorem called_res {rd : RS → Option (Ex × RS)} (hrd : Res l rd ExSm) (n : Nat) (op pos : Int) : Res l (calledQ l n rd op pos) ExSm:=fun s x s' hs h=>by
 have f1:=must_fw [(⟨#[40]⟩ : ByteArray)] _ hs
 unfold calledQ at h
 split at h
 ·obtain ⟨⟨u,s1⟩,hk,he⟩:=Option.map_eq_some_iff.1 h
  cases he
  obtain ⟨k1,k2,k3⟩:=path_res hl n _ u s1 f1.le hk
  have f3:=must_fw [(⟨#[41]⟩ : ByteArray)] _ k3
  exact ⟨ex_mk emS_le emS_le k1 (Nat.zero_le _) nofun,Nat.le_trans (Nat.le_trans f1.up k2) f3.up,f3.le⟩
 split at h
 ·cases hp : pathP l n (mustP l s [(⟨#[40]⟩ : ByteArray)]) with
  | none=>rw [hp] at h; cases h
  | some y =>
   obtain ⟨u,s1⟩:=y
   rw [hp] at h
   obtain ⟨k1,k2,k3⟩:=path_res hl n _ u s1 f1.le hp
   have f3:=must_fw [(⟨#[44]⟩ : ByteArray)] _ k3
   obtain ⟨⟨v,s2⟩,hk,he⟩:=Option.map_eq_some_iff.1 h
   cases he
   obtain ⟨j1,j2,j3⟩:=hrd _ v s2 f3.le hk
   have f4:=must_fw [(⟨#[41]⟩ : ByteArray)] _ j3
   exact ⟨ex_one emS_le emS_le k1 j1,Nat.le_trans (Nat.le_trans (Nat.le_trans (Nat.le_trans f1.up k2) f3.up) j2) f4.up,f4.le⟩
 ·obtain ⟨⟨u,s1⟩,hk,he⟩:=Option.map_eq_some_iff.1 h
  cases he
  obtain ⟨k1,k2,k3⟩:=hrd _ u s1 f1.le hk
  have f3:=must_fw [(⟨#[41]⟩ : ByteArray)] _ k3
  exact ⟨ex_one emS_le emS_le zeroPl_sm k1,Nat.le_trans (Nat.le_trans f1.up k2) f3.up,f3.le⟩
theorem upper_res {rd : RS → Option (Ex × RS)} (hrd : Res l rd ExSm) (n : Nat) (pos : Int) : Res l (upperQ l n rd pos) ExSm:=fun s x s' hs h=>by
 have f1:=take_fw hs 3 (s:=s)
 unfold upperQ at h
 split at h
 ·have f2:=may_fw f1.le (⟨#[123]⟩ : ByteArray)
  obtain ⟨⟨u,s1⟩,hk,he⟩:=Option.map_eq_some_iff.1 h
  cases he
  obtain ⟨⟨k1,k4⟩,k2,k3⟩:=list_res hl (hand_res hl hrd) (⟨#[125]⟩ : ByteArray) n _ u s1 f2.le hk
  refine ⟨ex_mk (text_le hl s 3) emS_le ⟨emS_le,by simpa using k4,fun y hy=>?_⟩ (by simpa using k4) fun y hy=>?_,Nat.le_trans (f1.trans f2).up k2,k3⟩
  ·obtain ⟨z,hz,rfl⟩:=List.mem_map.1 hy
   exact (k1 z hz).1
  ·obtain ⟨z,hz,rfl⟩:=List.mem_map.1 hy
   exact (k1 z hz).2
 ·have f2:=must_fw [(⟨#[46]⟩ : ByteArray)] _ f1.le
  have f3:=take_fw f2.le 3
  simp only at h
  split at h
  ·have f4:=may_fw f3.le (⟨#[40]⟩ : ByteArray)
   obtain ⟨⟨u,s1⟩,hk,he⟩:=Option.map_eq_some_iff.1 h
   cases he
   obtain ⟨k1,k2,k3⟩:=hrd _ u s1 f4.le hk
   have f5:=must_fw [(⟨#[41]⟩ : ByteArray)] _ k3
   exact ⟨ex_one (text_le hl s 3) (text_le hl _ 3) zeroPl_sm k1,Nat.le_trans (Nat.le_trans (((f1.trans f2).trans f3).trans f4).up k2) f5.up,f5.le⟩
  ·cases h
   exact ⟨ex_mk (text_le hl s 3) (text_le hl _ 3) zeroPl_sm (Nat.zero_le _) nofun,((f1.trans f2).trans f3).up,f3.le⟩
theorem simple_res {rd : RS → Option (Ex × RS)} (hrd : Res l rd ExSm) (n : Nat) : Res l (simpleQ l n rd) ExSm:=fun s x s' hs h=>by
 unfold simpleQ at h
 split at h
 ·cases h
  exact ⟨zeroX_sm,Nat.le_refl _,hs⟩
 cases hx : l[s.at_]? with
 | none =>
  rw [hx] at h
  cases h
  exact ⟨zeroX_sm,Nat.le_refl _,hs⟩
 | some t =>
 rw [hx] at h
 have hlt:=(List.getElem?_eq_some_iff.1 hx).1
 have f0 : Fw l s ⟨s.at_ + 1,s.bad,s.full⟩:=⟨hlt,Nat.le_succ _,id⟩
 have leaf : ∀ (op int pos : Int),ExSm (ex0 op int emS [] pos):=fun op int pos=>ex_mk emS_le emS_le zeroPl_sm (Nat.zero_le _) nofun
 simp only at h
 split at h
 ·obtain ⟨v,hv,he⟩:=Option.map_eq_some_iff.1 h
  cases he
  exact ⟨leaf _ _ _,f0.up,f0.le⟩
 split at h
 ·exact upper_res hl hrd n t.pos s x s' hs h
 split at h
 ·split at h
  ·have f1:=take_fw hs 2 (s:=s)
   have f2:=must_fw [(⟨#[40]⟩ : ByteArray)] _ f1.le
   obtain ⟨⟨u,s1⟩,hk,he⟩:=Option.map_eq_some_iff.1 h
   cases he
   obtain ⟨⟨k1,k4⟩,k2,k3⟩:=list_res hl (lent_res hl hrd n) (⟨#[41]⟩ : ByteArray) n _ u s1 f2.le hk
   exact ⟨ex_mk (text_le hl s 2) emS_le zeroPl_sm k4 k1,Nat.le_trans (f1.trans f2).up k2,k3⟩
  ·obtain ⟨⟨u,s1⟩,hk,he⟩:=Option.map_eq_some_iff.1 h
   cases he
   obtain ⟨k1,k2,k3⟩:=path_res hl n s u s1 hs hk
   exact ⟨ex_mk emS_le emS_le k1 (Nat.zero_le _) nofun,k2,k3⟩
 split at h
 ·obtain ⟨k1,k2,k3⟩:=called_res hl hrd n _ _ _ x s' f0.le h
  exact ⟨k1,Nat.le_trans f0.up k2,k3⟩
 ·split at h
  ·cases h
   exact ⟨leaf _ _ _,(may_fw hs _).up,(may_fw hs _).le⟩
  split at h
  ·cases h
   exact ⟨leaf _ _ _,(may_fw hs _).up,(may_fw hs _).le⟩
  have f1:=must_fw [(⟨#[40]⟩ : ByteArray)] _ hs
  split at h
  ·cases h
   have f2:=may_fw f1.le (⟨#[41]⟩ : ByteArray)
   exact ⟨leaf _ _ _,(f1.trans f2).up,f2.le⟩
  ·obtain ⟨⟨u,s1⟩,hk,he⟩:=Option.map_eq_some_iff.1 h
   cases he
   obtain ⟨k1,k2,k3⟩:=hrd _ u s1 f1.le hk
   have f3:=must_fw [(⟨#[41]⟩ : ByteArray)] _ k3
   exact ⟨k1,Nat.le_trans (Nat.le_trans f1.up k2) f3.up,f3.le⟩
omit hl in
theorem ex_two {op pos : Int} {x y : Ex} (hx : ExSm x) (hy : ExSm y) : ExSm (ex0 op 0 emS [x,y] pos):=ex_mk emS_le emS_le zeroPl_sm (by show 2 ≤ 20000; decide) fun z hz=>by
 simp only [List.mem_cons,List.not_mem_nil,or_false] at hz
 rcases hz with rfl | rfl
 ·exact hx
 ·exact hy
omit hl in
theorem signs_res {rd : RS → Option (Ex × RS)} (hrd : Res l rd ExSm) (k : Nat) : ∀ (n : Nat) (e : Ex) (s : RS) (x : Ex) (s' : RS),ExSm e → s.at_ ≤ l.length → signsQ l rd k n e s = some (x,s') → ExSm x ∧ s.at_ ≤ s'.at_ ∧ s'.at_ ≤ l.length
 | 0,e,s,x,s',_,_,h=>by simp [signsQ] at h
 | n + 1,e,s,x,s',he,hs,h=>by
  unfold signsQ at h
  split at h
  ·cases h
   exact ⟨he,Nat.le_refl _,hs⟩
  cases hx : l[s.at_]? with
  | none =>
   rw [hx] at h
   cases h
   exact ⟨he,Nat.le_refl _,hs⟩
  | some t =>
  rw [hx] at h
  have hlt:=(List.getElem?_eq_some_iff.1 hx).1
  simp only at h
  split at h
  ·cases h
   exact ⟨he,Nat.le_refl _,hs⟩
  ·rename_i op hop
   cases hr : rd ⟨s.at_ + 1,s.bad,s.full⟩ with
   | none=>rw [hr] at h; cases h
   | some y =>
    obtain ⟨r,s1⟩:=y
    rw [hr] at h
    obtain ⟨k1,k2,k3⟩:=hrd ⟨s.at_ + 1,s.bad,s.full⟩ r s1 hlt hr
    have k2 : s.at_ + 1 ≤ s1.at_:=k2
    simp only at h
    split at h
    ·cases h
     exact ⟨ex_two he k1,by omega,k3⟩
    ·obtain ⟨j1,j2,j3⟩:=signs_res hrd k n _ s1 x s' (ex_two he k1) k3 h
     exact ⟨j1,by omega,j3⟩
theorem strong_res : ∀ (n j : Nat),Res l (strongQ l n j) ExSm:=by
 intro n
 induction n with
 | zero=>intro j s x s' _ h; simp [strongQ] at h
 | succ n ih =>
 intro j s x s' hs h
 cases j with
 | zero =>
  unfold strongQ at h
  split at h
  ·cases h
   exact ⟨zeroX_sm,Nat.le_refl _,hs⟩
  split at h
  ·have f1:=may_fw hs (⟨#[45]⟩ : ByteArray)
   obtain ⟨⟨u,s1⟩,hk,he⟩:=Option.map_eq_some_iff.1 h
   cases he
   obtain ⟨k1,k2,k3⟩:=ih 0 _ u s1 f1.le hk
   exact ⟨ex_one emS_le emS_le zeroPl_sm k1,Nat.le_trans f1.up k2,k3⟩
  ·exact simple_res hl (ih 6) n s x s' hs h
 | succ j =>
  unfold strongQ at h
  split at h
  ·cases h
   exact ⟨zeroX_sm,Nat.le_refl _,hs⟩
  split at h
  ·have f1:=may_fw hs (⟨#[110,111,116]⟩ : ByteArray)
   obtain ⟨⟨u,s1⟩,hk,he⟩:=Option.map_eq_some_iff.1 h
   cases he
   obtain ⟨k1,k2,k3⟩:=ih 4 _ u s1 f1.le hk
   exact ⟨ex_one emS_le emS_le zeroPl_sm k1,Nat.le_trans f1.up k2,k3⟩
  ·cases hr : strongQ l n j s with
   | none=>rw [hr] at h; cases h
   | some y =>
    obtain ⟨e,s1⟩:=y
    rw [hr] at h
    obtain ⟨k1,k2,k3⟩:=ih j s e s1 hs hr
    obtain ⟨j1,j2,j3⟩:=signs_res (ih j) (5 - j) n e s1 x s' k1 k3 h
    exact ⟨j1,Nat.le_trans k2 j2,j3⟩
end
end Go.Proofs.YtfiohepfohhibaaDoor
namespace Go.Proofs.YtfiohepfohhibaaDoor
open Go.RowKit
theorem TotP.det {α : Type} {l : List Tok} {f : RS → Option (α × RS)} {r : Nat} (h : TotP l f r) {s : RS} {x : α} {s' : RS} (hs : s.at_ ≤ l.length) (hr : mu l s ≤ r) (e : f s = some (x,s')) : Fw l s s' ∧ Pg s s':=by
 obtain ⟨y,s2,a,b,c⟩:=h s hs hr
 rw [e] at a
 cases a
 exact ⟨b,c⟩
theorem TotF.det {α : Type} {l : List Tok} {f : RS → Option (α × RS)} {r : Nat} (h : TotF l f r) {s : RS} {x : α} {s' : RS} (hs : s.at_ ≤ l.length) (hr : mu l s ≤ r) (e : f s = some (x,s')) : Fw l s s':=by
 obtain ⟨y,s2,a,b⟩:=h s hs hr
 rw [e] at a
 cases a
 exact b
theorem st_mk {op int pos : Int} {nm sc : ByteArray} {ns : List ByteArray} {t : Ty} {pl : Pl} {es : List Ex} {b el : List St} {ar : List Ar} (h1 : nm.size ≤ 20000) (h2 : sc.size ≤ 20000) (h3 : NmSm ns) (h4 : TySm t) (h5 : PlSm pl) (h6 : ExsSm es) (hb : StsSm b) (he : StsSm el) (ha : ar.length ≤ 20000) (hv : ∀ a ∈ ar,a.variant.size ≤ 20000 ∧ a.name.size ≤ 20000 ∧ StsSm a.body) : StSm (.mk op nm sc ns t int pl es b el ar pos) :=
 .mk _ h1 h2 h3 h4 h5 h6 hb.1 he.1 ha hb.2 he.2 (fun a h=>⟨(hv a h).1,(hv a h).2.1,(hv a h).2.2.1⟩) fun a h=>(hv a h).2.2.2
theorem sts0 : StsSm []:=⟨Nat.zero_le _,nofun⟩
theorem exs0 : ExsSm []:=⟨Nat.zero_le _,nofun⟩
theorem exs1 {e : Ex} (h : ExSm e) : ExsSm [e]:=⟨by show 1 ≤ 20000; decide,fun x hx=>by
 obtain rfl : x = e:=by simpa using hx
 exact h⟩
theorem nm0 : NmSm []:=⟨Nat.zero_le _,nofun⟩
theorem st_at {s : St} (h : StSm s) (pos : Int) : StSm (s.at pos):=by
 obtain ⟨_,h1,h2,h3,h4,h5,h6,h7,h8,h9,h10,h11,h12,h13⟩:=h
 exact .mk _ h1 h2 h3 h4 h5 h6 h7 h8 h9 h10 h11 h12 h13
theorem st0_sm {op : Int} {nm sc : ByteArray} {es : List Ex} {b el : List St} (h1 : nm.size ≤ 20000) (h2 : sc.size ≤ 20000) (h6 : ExsSm es) (hb : StsSm b) (he : StsSm el) : StSm (st0 op nm sc es b el):=st_mk h1 h2 nm0 zeroT_sm zeroPl_sm h6 hb he (Nat.zero_le _) nofun
section
variable {l : List Tok} {n r : Nat} {ex : RS → Option (Ex × RS)} {inner : Blk}
def StR (l : List Tok) (r : Nat) (f : RS → Option (St × RS)) : Prop:=∀ (s : RS) (x : St) (s' : RS),s.at_ ≤ l.length → mu l s ≤ r → f s = some (x,s') → StSm x
def InR (l : List Tok) (r : Nat) (inner : Blk) : Prop:=∀ (s : RS) (b : List St) (s' : RS),s.at_ ≤ l.length → mu l s ≤ r → inner s = some (b,s') → StsSm b
theorem name_res (hl : TokSm l) : Res l (nameQ l) fun x=>x.size ≤ 20000:=fun s x s' hs h=>by
 unfold nameQ at h
 cases h
 exact ⟨text_le hl s 2,(take_fw hs 2).up,(take_fw hs 2).le⟩
theorem let_sm (hl : TokSm l) (hex : TotP l ex r) (hxr : Res l ex ExSm) (hn : r < n) : StR l r (letQ l n ex):=fun s x s' hs hr h=>by
 unfold letQ at h
 split at h
 ·have f1:=take_fw hs 3 (s:=s)
  have f2:=must_fw [(⟨#[123]⟩ : ByteArray)] _ f1.le
  have m:=(f1.trans f2).mu
  split at h
  ·cases h
  rename_i ns s2 hp
  obtain ⟨j2,_⟩:=(list_tot (r:=r) (name_tot r) (⟨#[125]⟩ : ByteArray) n hn).det f2.le (by omega) hp
  obtain ⟨⟨k1,k4⟩,_⟩:=list_res hl (name_res hl) (⟨#[125]⟩ : ByteArray) n _ ns s2 f2.le hp
  have f3:=must_fw [(⟨#[61]⟩ : ByteArray)] _ j2.le
  obtain ⟨⟨e,s3⟩,he,h2⟩:=Option.map_eq_some_iff.1 h
  cases h2
  obtain ⟨i1,_⟩:=hxr _ e s3 f3.le he
  exact st_mk (text_le hl s 3) emS_le ⟨k4,k1⟩ zeroT_sm zeroPl_sm (exs1 i1) sts0 sts0 (Nat.zero_le _) nofun
 ·have f1:=take_fw hs 2 (s:=s)
  have f2:=must_fw [(⟨#[61]⟩ : ByteArray)] _ f1.le
  obtain ⟨⟨e,s3⟩,he,h2⟩:=Option.map_eq_some_iff.1 h
  cases h2
  obtain ⟨i1,_⟩:=lent_res hl hxr n _ e s3 f2.le he
  exact st0_sm (text_le hl s 2) emS_le (exs1 i1) sts0 sts0
theorem drop_sm (hl : TokSm l) : StR l r (dropQ l):=fun s x s' hs hr h=>by
 unfold dropQ at h
 cases h
 exact st0_sm (text_le hl s 2) emS_le exs0 sts0 sts0
theorem block_sm (hir : InR l r inner) : InR l r (blockQ l inner):=fun s b s' hs hr h=>by
 have f1:=must_fw [(⟨#[123]⟩ : ByteArray)] _ hs
 have m:=f1.mu
 exact hir _ b s' f1.le (by omega) h
theorem while_sm (hex : TotP l ex r) (hxr : Res l ex ExSm) (hir : InR l r inner) : StR l r (whileQ l ex inner):=fun s x s' hs hr h=>by
 unfold whileQ at h
 split at h
 ·cases h
 rename_i e s1 he
 obtain ⟨j2,_⟩:=hex.det hs hr he
 obtain ⟨i1,_⟩:=hxr _ e s1 hs he
 have m:=j2.mu
 obtain ⟨⟨b,s2⟩,hb,h2⟩:=Option.map_eq_some_iff.1 h
 cases h2
 exact st0_sm emS_le emS_le (exs1 i1) (block_sm hir _ b s2 j2.le (by omega) hb) sts0
theorem branch_sm (hex : TotP l ex r) (hxr : Res l ex ExSm) (hin : TotF l inner r) (hir : InR l r inner) : StR l r (branchQ l ex inner):=fun s x s' hs hr h=>by
 unfold branchQ at h
 split at h
 ·cases h
 rename_i e s1 he
 obtain ⟨j2,_⟩:=hex.det hs hr he
 obtain ⟨i1,_⟩:=hxr _ e s1 hs he
 have m:=j2.mu
 split at h
 ·cases h
 rename_i b s2 hb
 have b1:=block_sm hir _ b s2 j2.le (by omega) hb
 have j3:=(block_tot hin).det j2.le (by omega) hb
 have m2:=j3.mu
 split at h
 ·have f3:=may_fw j3.le (⟨#[101,108,115,101]⟩ : ByteArray)
  have m3:=f3.mu
  obtain ⟨⟨c,s3⟩,hc,h2⟩:=Option.map_eq_some_iff.1 h
  cases h2
  exact st0_sm emS_le emS_le (exs1 i1) b1 (block_sm hir _ c s3 f3.le (by omega) hc)
 ·cases h
  exact st0_sm emS_le emS_le (exs1 i1) b1 sts0
theorem scope_sm (hir : InR l r inner) : StR l r (scopeQ l inner):=fun s x s' hs hr h=>by
 unfold scopeQ at h
 obtain ⟨⟨b,s2⟩,hb,h2⟩:=Option.map_eq_some_iff.1 h
 cases h2
 exact st0_sm emS_le emS_le exs0 (block_sm hir _ b s2 hs hr hb) sts0
theorem plain_sm (hir : InR l r inner) : StR l r (plainQ inner):=fun s x s' hs hr h=>by
 unfold plainQ at h
 obtain ⟨⟨b,s2⟩,hb,h2⟩:=Option.map_eq_some_iff.1 h
 cases h2
 exact st0_sm emS_le emS_le exs0 (hir _ b s2 hs hr hb) sts0
theorem lock_sm (hl : TokSm l) (hir : InR l r inner) (hn : r < n) : StR l r (lockQ l n inner):=fun s x s' hs hr h=>by
 unfold lockQ at h
 split at h
 ·cases h
 rename_i p s1 hp
 obtain ⟨j2,_⟩:=(path_tot n r hn).det hs hr hp
 obtain ⟨i1,_⟩:=path_res hl n s p s1 hs hp
 have f1:=must_fw [(⟨#[97,115]⟩ : ByteArray)] _ j2.le
 have f2:=take_fw f1.le 2
 have m:=((j2.trans f1).trans f2).mu
 obtain ⟨⟨b,s2⟩,hb,h2⟩:=Option.map_eq_some_iff.1 h
 cases h2
 exact st_mk (text_le hl _ 2) emS_le nm0 zeroT_sm i1 exs0 (block_sm hir _ b s2 f2.le (by omega) hb) sts0 (Nat.zero_le _) nofun
def ArOk (a : Ar) : Prop:=a.variant.size ≤ 20000 ∧ a.name.size ≤ 20000 ∧ StsSm a.body
theorem arm_sm (hl : TokSm l) (hir : InR l r inner) (s : RS) (x : Ar) (s' : RS) (hs : s.at_ ≤ l.length) (hr : mu l s ≤ r) (h : armQ l inner s = some (x,s')) : ArOk x:=by
 unfold armQ at h
 have f1:=take_fw hs 3 (s:=s)
 simp only at h
 split at h
 ·have f2:=may_fw f1.le (⟨#[40]⟩ : ByteArray)
  have f3:=take_fw f2.le 2
  have f4:=must_fw [(⟨#[41]⟩ : ByteArray)] _ f3.le
  have f5:=must_fw [(⟨#[61,62]⟩ : ByteArray)] _ f4.le
  have m:=((((f1.trans f2).trans f3).trans f4).trans f5).mu
  obtain ⟨⟨b,s2⟩,hb,h2⟩:=Option.map_eq_some_iff.1 h
  cases h2
  exact ⟨text_le hl s 3,text_le hl _ 2,block_sm hir _ b s2 f5.le (by omega) hb⟩
 ·have f2:=must_fw [(⟨#[61,62]⟩ : ByteArray)] _ f1.le
  have m:=(f1.trans f2).mu
  obtain ⟨⟨b,s2⟩,hb,h2⟩:=Option.map_eq_some_iff.1 h
  cases h2
  exact ⟨text_le hl s 3,emS_le,block_sm hir _ b s2 f2.le (by omega) hb⟩
theorem arms_sm (hl : TokSm l) (hin : TotF l inner r) (hir : InR l r inner) : ∀ (n : Nat) (acc : List Ar) (s : RS) (xs : List Ar) (s' : RS),s.at_ ≤ l.length → mu l s ≤ r → (∀ a ∈ acc,ArOk a) → armsQ l inner n acc s = some (xs,s') → (∀ a ∈ xs,ArOk a) ∧ xs.length + s.at_ ≤ acc.length + s'.at_ + 1 ∧ s'.at_ ≤ l.length
 | 0,acc,s,xs,s',_,_,_,h=>by simp [armsQ] at h
 | n + 1,acc,s,xs,s',hs,hr,ha,h=>by
  unfold armsQ at h
  split at h
  ·cases h
   exact ⟨ha,by omega,hs⟩
  split at h
  ·cases h
   have f:=may_fw hs (⟨#[125]⟩ : ByteArray)
   have:=f.up
   exact ⟨ha,by omega,f.le⟩
  split at h
  ·cases h
  rename_i a s1 hq
  obtain ⟨j1,j2⟩:=(arm_tot hin).det hs hr hq
  have a1:=arm_sm hl hir s a s1 hs hr hq
  have m:=j1.mu
  have hacc : ∀ z ∈ acc ++ [a],ArOk z:=fun z hz=>by
   rcases List.mem_append.1 hz with h | h
   ·exact ha z h
   ·obtain rfl : z = a:=by simpa using h
    exact a1
  cases hb : s1.bad with
  | true =>
   have : armsQ l inner n (acc ++ [a]) s1 = none ∨ armsQ l inner n (acc ++ [a]) s1 = some (acc ++ [a],s1):=by
    cases n with
    | zero=>left; rfl
    | succ n=>right; unfold armsQ; rw [if_pos hb]
   rcases this with e | e
   ·rw [e] at h; cases h
   ·rw [e] at h
    cases h
    have:=j1.up
    exact ⟨hacc,by rw [List.length_append,List.length_singleton]; omega,j1.le⟩
  | false =>
   have:=j2 hb
   obtain ⟨k1,k2,k3⟩:=arms_sm hl hin hir n (acc ++ [a]) s1 xs s' j1.le (by omega) hacc h
   rw [List.length_append,List.length_singleton] at k2
   exact ⟨k1,by omega,k3⟩
theorem match_sm (hl : TokSm l) (hin : TotF l inner r) (hir : InR l r inner) : StR l r (matchQ l n inner):=fun s x s' hs hr h=>by
 have hll:=hl.len
 unfold matchQ at h
 have f1:=take_fw hs 2 (s:=s)
 have f2:=must_fw [(⟨#[58]⟩ : ByteArray)] _ f1.le
 have f3:=take_fw f2.le 3
 have f4:=must_fw [(⟨#[123]⟩ : ByteArray)] _ f3.le
 have m:=(((f1.trans f2).trans f3).trans f4).mu
 simp only at h
 obtain ⟨⟨ars,s2⟩,ha,h2⟩:=Option.map_eq_some_iff.1 h
 cases h2
 obtain ⟨k1,k2,k3⟩:=arms_sm hl hin hir n [] _ ars s2 f4.le (by omega) nofun ha
 simp only [List.length_nil] at k2
 exact st_mk (text_le hl s 2) (text_le hl _ 3) nm0 zeroT_sm zeroPl_sm exs0 sts0 sts0 (by show ars.length ≤ 20000; omega) k1
theorem spawn_sm (hl : TokSm l) (hex : TotP l ex r) (hxr : Res l ex ExSm) (hir : InR l r inner) (hn : r < n) : StR l r (spawnQ l n ex inner):=fun s x s' hs hr h=>by
 unfold spawnQ at h
 have f1:=must_fw [(⟨#[40]⟩ : ByteArray)] _ hs
 have m:=f1.mu
 split at h
 ·cases h
 rename_i hs1 s1 hp
 obtain ⟨j1,_⟩:=(list_tot (r:=r) (hand_tot (r:=r) (lent_tot (r:=r) (n:=n) hex hn)) (⟨#[41]⟩ : ByteArray) n hn).det f1.le (by omega) hp
 obtain ⟨⟨k1,k4⟩,_⟩:=list_res hl (hand_res hl (lent_res hl hxr n)) (⟨#[41]⟩ : ByteArray) n _ hs1 s1 f1.le hp
 have m2:=j1.mu
 obtain ⟨⟨b,s2⟩,hb,h2⟩:=Option.map_eq_some_iff.1 h
 cases h2
 refine st_mk emS_le emS_le ⟨by simpa using k4,fun y hy=>?_⟩ zeroT_sm zeroPl_sm ⟨by simpa using k4,fun y hy=>?_⟩ (block_sm hir _ b s2 j1.le (by omega) hb) sts0 (Nat.zero_le _) nofun
 ·obtain ⟨z,hz,rfl⟩:=List.mem_map.1 hy
  exact (k1 z hz).1
 ·obtain ⟨z,hz,rfl⟩:=List.mem_map.1 hy
  exact (k1 z hz).2
theorem chan_sm (hl : TokSm l) : StR l r (chanQ l n):=fun s x s' hs hr h=>by
 unfold chanQ at h
 have f1:=must_fw [(⟨#[60]⟩ : ByteArray)] _ hs
 split at h
 ·cases h
 rename_i t s1 ht
 obtain ⟨k1,_⟩:=kind_sm hl n _ t s1 f1.le ht
 dsimp only at h
 obtain ⟨v,hv,h2⟩:=Option.map_eq_some_iff.1 h
 cases h2
 exact st_mk (text_le hl _ 2) (text_le hl _ 2) nm0 k1 zeroPl_sm exs0 sts0 sts0 (Nat.zero_le _) nofun
theorem word_sm (hl : TokSm l) (hex : TotP l ex r) (hxr : Res l ex ExSm) (hin : TotF l inner r) (hir : InR l r inner) (hn : r < n) (w : ByteArray) (s : RS) (hs : s.at_ ≤ l.length) (hr : mu l s ≤ r) (x : St) (s' : RS) (h : wordQ l n ex inner w s = some (some (x,s'))) : StSm x:=by
 have go : ∀ {f : RS → Option (St × RS)},StR l r f → some (f s) = some (some (x,s')) → StSm x:=fun hf e=>hf s x s' hs hr (Option.some.inj e)
 unfold wordQ at h
 by_cases h0 : sEq w (⟨#[108,101,116]⟩ : ByteArray) = true
 ·rw [if_pos h0] at h; exact go (let_sm hl hex hxr hn) h
 rw [if_neg h0] at h
 by_cases h1 : sEq w (⟨#[100,114,111,112]⟩ : ByteArray) = true
 ·rw [if_pos h1] at h; exact go (drop_sm hl) h
 rw [if_neg h1] at h
 by_cases h2 : sEq w (⟨#[105,102]⟩ : ByteArray) = true
 ·rw [if_pos h2] at h; exact go (branch_sm hex hxr hin hir) h
 rw [if_neg h2] at h
 by_cases h3 : sEq w (⟨#[119,104,105,108,101]⟩ : ByteArray) = true
 ·rw [if_pos h3] at h; exact go (while_sm hex hxr hir) h
 rw [if_neg h3] at h
 by_cases h4 : sEq w (⟨#[109,97,116,99,104]⟩ : ByteArray) = true
 ·rw [if_pos h4] at h; exact go (match_sm hl hin hir) h
 rw [if_neg h4] at h
 by_cases h5 : sEq w (⟨#[115,99,111,112,101]⟩ : ByteArray) = true
 ·rw [if_pos h5] at h; exact go (scope_sm hir) h
 rw [if_neg h5] at h
 by_cases h6 : sEq w (⟨#[115,112,97,119,110]⟩ : ByteArray) = true
 ·rw [if_pos h6] at h; exact go (spawn_sm hl hex hxr hir hn) h
 rw [if_neg h6] at h
 by_cases h7 : sEq w (⟨#[108,111,99,107]⟩ : ByteArray) = true
 ·rw [if_pos h7] at h; exact go (lock_sm hl hir hn) h
 rw [if_neg h7] at h
 by_cases h8 : sEq w (⟨#[99,104,97,110]⟩ : ByteArray) = true
 ·rw [if_pos h8] at h; exact go (chan_sm hl) h
 rw [if_neg h8] at h
 by_cases h9 : sEq w (⟨#[123]⟩ : ByteArray) = true
 ·rw [if_pos h9] at h; exact go (plain_sm hir) h
 rw [if_neg h9] at h
 cases h
theorem step_sm (hl : TokSm l) (hk : NumsOk l) (hex : TotP l ex r) (hxr : Res l ex ExSm) (hin : TotF l inner r) (hir : InR l r inner) (hn : r + 1 < n) (s : RS) (hs : s.at_ ≤ l.length) (hr : mu l s ≤ r + 1) (x : St) (s' : RS) (h : stepQ l n ex inner s = some (some x,s')) : StSm x:=by
 unfold stepQ at h
 have first : ∀ (x : St) (s' : RS),firstQ l n ex inner s = some (some x,s') → StSm x:=fun x s' h=>by
  unfold firstQ at h
  split at h
  ·cases h
  rename_i hb0
  have hb : s.bad = false:=by simpa using hb0
  cases hx : l[s.at_]? with
  | none=>rw [hx] at h; cases h
  | some t =>
  rw [hx] at h
  have hlt:=(List.getElem?_eq_some_iff.1 hx).1
  have f0 : Fw l s ⟨s.at_ + 1,s.bad,s.full⟩:=⟨hlt,Nat.le_succ _,id⟩
  have p0 : Pg s ⟨s.at_ + 1,s.bad,s.full⟩:=fun _=>Nat.lt_succ_self _
  have m0:=p0.mu f0 hb
  simp only at h
  split at h
  ·cases h
  ·cases h
  ·rename_i st s1 hw
   cases h
   exact st_at (word_sm hl hex hxr hin hir (by omega) t.text _ f0.le (by omega) st s' hw) t.pos
 split at h
 ·cases h
 ·rename_i st s1 hf
  cases h
  exact first _ _ hf
 ·rename_i s1 hf
  have hs1 : s1 = s:=by
   rcases first_tot (r:=r) (n:=n) hk hex hin (by omega) s hs hr with e | ⟨st,s2,e,_⟩
   ·rw [e] at hf; cases hf; rfl
   ·rw [e] at hf; cases hf
  subst hs1
  unfold assignQ at h
  split at h
  ·cases h
  rename_i hb0
  have hb : s1.bad = false:=by simpa using hb0
  cases hx : l[s1.at_]? with
  | none=>rw [hx] at h; cases h
  | some t =>
  rw [hx] at h
  simp only at h
  split at h
  ·split at h
   ·cases h
   rename_i p s2 hp
   obtain ⟨j2,j3⟩:=(path_tot n (r + 1) hn).det hs hr hp
   obtain ⟨i1,_⟩:=path_res hl n s1 p s2 hs hp
   split at h
   ·have f1:=may_fw j2.le (⟨#[61]⟩ : ByteArray)
    obtain ⟨⟨e,s3⟩,he,h2⟩:=Option.map_eq_some_iff.1 h
    cases h2
    obtain ⟨e1,_⟩:=hxr _ e s3 f1.le he
    exact st_mk emS_le emS_le nm0 zeroT_sm i1 (exs1 e1) sts0 sts0 (Nat.zero_le _) nofun
   ·cases h
  ·cases h
end
end Go.Proofs.YtfiohepfohhibaaDoor
namespace Go.Proofs.YtfiohepfohhibaaDoor
open Go.RowKit
theorem mem_snoc {α : Type} {P : α → Prop} {acc : List α} {x : α} (ha : ∀ z ∈ acc,P z) (hx : P x) : ∀ z ∈ acc ++ [x],P z:=fun z hz=>by
 rcases List.mem_append.1 hz with h | h
 ·exact ha z h
 ·obtain rfl : z = x:=by simpa using h
  exact hx
section
variable {l : List Tok}
theorem inner_bad {n : Nat} {acc : List St} {s : RS} {b : List St} {s' : RS} (h : s.bad = true) (e : innerQ l n acc s = some (b,s')) : b = acc ∧ s' = s:=by
 cases n with
 | zero=>simp [innerQ] at e
 | succ n =>
  unfold innerQ at e
  rw [if_pos h] at e
  cases e
  exact ⟨rfl,rfl⟩
theorem inner_sm (hl : TokSm l) (hk : NumsOk l) : ∀ (n r : Nat),20 * r + 20 ≤ n → ∀ (acc : List St) (s : RS) (b : List St) (s' : RS),s.at_ ≤ l.length → mu l s ≤ r → (∀ x ∈ acc,StSm x) → innerQ l n acc s = some (b,s') → (∀ x ∈ b,StSm x) ∧ b.length + s.at_ ≤ acc.length + s'.at_ + 1:=by
 intro n
 induction n with
 | zero=>intro r h; omega
 | succ n ih =>
 intro r h acc s b s' hs hr ha e
 unfold innerQ at e
 split at e
 ·cases e
  exact ⟨ha,by omega⟩
 rename_i hb0
 have hb : s.bad = false:=by simpa using hb0
 have hr0 : 0 < r:=by rw [mu_good hb] at hr; omega
 obtain ⟨r',rfl⟩ : ∃ r',r = r' + 1:=⟨r - 1,by omega⟩
 split at e
 ·cases e
  have:=(may_fw hs (⟨#[125]⟩ : ByteArray)).up
  exact ⟨ha,by omega⟩
 have hx:=strong_tot hk n 6 (r' + 1) (by omega) (by omega)
 have hxr:=strong_res hl n 6
 have hin : TotF l (innerQ l n []) r':=fun s hs hr=>inner_tot hk n r' (by omega) [] s hs hr
 have hir : InR l r' (innerQ l n []):=fun s b s' hs hr e=>by
  obtain ⟨a,c⟩:=ih r' (by omega) [] s b s' hs hr nofun e
  have f:=hin.det hs hr e
  have:=f.le
  have:=hl.len
  rw [List.length_nil] at c
  exact ⟨by omega,a⟩
 have go : ∀ (x : St) (s1 : RS),Fw l s s1 → Pg s s1 → StSm x → innerQ l n (acc ++ [x]) s1 = some (b,s') → (∀ x ∈ b,StSm x) ∧ b.length + s.at_ ≤ acc.length + s'.at_ + 1:=fun x s1 f p hx e=>by
  have m:=p.mu f hb
  obtain ⟨a,c⟩:=ih r' (by omega) (acc ++ [x]) s1 b s' f.le (by omega) (mem_snoc ha hx) e
  rw [List.length_append,List.length_singleton] at c
  cases hb1 : s1.bad with
  | true =>
   obtain ⟨rfl,rfl⟩:=inner_bad hb1 e
   have:=f.up
   exact ⟨a,by rw [List.length_append,List.length_singleton]; omega⟩
  | false =>
   have:=p hb1
   exact ⟨a,by omega⟩
 rcases step_tot (r:=r') (n:=n) hk (hx.le (by omega)) hin (by omega) s hs hr with h1 | ⟨st,s1,h1,h2,h3⟩
 ·rw [h1] at e
  simp only at e
  obtain ⟨y,s2,j1,j2,j3⟩:=hx s hs hr
  have y1:=(hxr s y s2 hs j1).1
  have f3:=must_fw [(⟨#[59]⟩ : ByteArray)] _ j2.le
  rw [j1] at e
  exact go _ _ (j2.trans f3) (j3.left f3) (st_at (st0_sm emS_le emS_le (exs1 y1) sts0 sts0) _) e
 ·have x1:=step_sm (r:=r') (n:=n) hl hk (hx.le (by omega)) hxr hin hir (by omega) s hs hr st s1 h1
  rw [h1] at e
  exact go st s1 h2 h3 x1 e
theorem bodyQ_bad {n : Nat} {acc : List St} {s : RS} {b : List St × Ex} {s' : RS} (h : s.bad = true) (e : bodyQ l n acc s = some (b,s')) : b = ([],zeroX) ∧ s' = s:=by
 cases n with
 | zero=>simp [bodyQ] at e
 | succ n =>
  unfold bodyQ at e
  rw [if_pos h] at e
  cases e
  exact ⟨rfl,rfl⟩
theorem body_sm (hl : TokSm l) (hk : NumsOk l) : ∀ (n r : Nat),20 * r + 20 ≤ n → ∀ (acc : List St) (s : RS) (b : List St × Ex) (s' : RS),s.at_ ≤ l.length → mu l s ≤ r → (∀ x ∈ acc,StSm x) → bodyQ l n acc s = some (b,s') → (∀ x ∈ b.1,StSm x) ∧ b.1.length + s.at_ ≤ acc.length + s'.at_ + 1 ∧ ExSm b.2:=by
 intro n
 induction n with
 | zero=>intro r h; omega
 | succ n ih =>
 intro r h acc s b s' hs hr ha e
 unfold bodyQ at e
 split at e
 ·cases e
  exact ⟨nofun,by rw [List.length_nil]; omega,zeroX_sm⟩
 rename_i hb0
 have hb : s.bad = false:=by simpa using hb0
 have hr0 : 0 < r:=by rw [mu_good hb] at hr; omega
 obtain ⟨r',rfl⟩ : ∃ r',r = r' + 1:=⟨r - 1,by omega⟩
 have hx:=strong_tot hk n 6 (r' + 1) (by omega) (by omega)
 have hxr:=strong_res hl n 6
 have hin : TotF l (innerQ l n []) r':=fun s hs hr=>inner_tot hk n r' (by omega) [] s hs hr
 have hir : InR l r' (innerQ l n []):=fun s b s' hs hr e=>by
  obtain ⟨a,c⟩:=inner_sm hl hk n r' (by omega) [] s b s' hs hr nofun e
  have f:=hin.det hs hr e
  have:=f.le
  have:=hl.len
  rw [List.length_nil] at c
  exact ⟨by omega,a⟩
 have go : ∀ (x : St) (s1 : RS),Fw l s s1 → Pg s s1 → StSm x → bodyQ l n (acc ++ [x]) s1 = some (b,s') → (∀ x ∈ b.1,StSm x) ∧ b.1.length + s.at_ ≤ acc.length + s'.at_ + 1 ∧ ExSm b.2:=fun x s1 f p hx e=>by
  have m:=p.mu f hb
  obtain ⟨a,c,d⟩:=ih r' (by omega) (acc ++ [x]) s1 b s' f.le (by omega) (mem_snoc ha hx) e
  rw [List.length_append,List.length_singleton] at c
  cases hb1 : s1.bad with
  | true =>
   obtain ⟨rfl,rfl⟩:=bodyQ_bad hb1 e
   have:=f.up
   exact ⟨a,by rw [List.length_nil]; omega,d⟩
  | false =>
   have:=p hb1
   exact ⟨a,by omega,d⟩
 rcases step_tot (r:=r') (n:=n) hk (hx.le (by omega)) hin (by omega) s hs hr with h1 | ⟨st,s1,h1,h2,h3⟩
 ·rw [h1] at e
  simp only at e
  obtain ⟨y,s2,j1,j2,j3⟩:=hx s hs hr
  have y1:=(hxr s y s2 hs j1).1
  have f3:=must_fw [(⟨#[59]⟩ : ByteArray)] _ j2.le
  rw [j1] at e
  simp only at e
  split at e
  ·cases e
   have:=j2.up
   exact ⟨ha,by dsimp only; omega,y1⟩
  ·exact go _ _ (j2.trans f3) (j3.left f3) (st_at (st0_sm emS_le emS_le (exs1 y1) sts0 sts0) _) e
 ·have x1:=step_sm (r:=r') (n:=n) hl hk (hx.le (by omega)) hxr hin hir (by omega) s hs hr st s1 h1
  rw [h1] at e
  exact go st s1 h2 h3 x1 e
theorem field_res (hl : TokSm l) (n : Nat) : Res l (fieldP l n) FiSm:=fun s x s' hs h=>by
 unfold fieldP at h
 have f1:=take_fw hs 2 (s:=s)
 have f2:=must_fw [(⟨#[58]⟩ : ByteArray)] _ f1.le
 obtain ⟨⟨t,s1⟩,ht,h2⟩:=Option.map_eq_some_iff.1 h
 cases h2
 obtain ⟨k1,k2,k3⟩:=kind_sm hl n _ t s1 f2.le ht
 exact ⟨⟨text_le hl s 2,k1⟩,Nat.le_trans (f1.trans f2).up k2,k3⟩
theorem variant_res (hl : TokSm l) (n : Nat) : Res l (variantP l n) FiSm:=fun s x s' hs h=>by
 unfold variantP at h
 have f1:=take_fw hs 3 (s:=s)
 simp only at h
 split at h
 ·have f2:=may_fw f1.le (⟨#[40]⟩ : ByteArray)
  obtain ⟨⟨t,s1⟩,ht,h2⟩:=Option.map_eq_some_iff.1 h
  cases h2
  obtain ⟨k1,k2,k3⟩:=kind_sm hl n _ t s1 f2.le ht
  have f3:=must_fw [(⟨#[41]⟩ : ByteArray)] _ k3
  exact ⟨⟨text_le hl s 3,k1⟩,Nat.le_trans (Nat.le_trans (f1.trans f2).up k2) f3.up,f3.le⟩
 ·cases h
  exact ⟨⟨text_le hl s 3,zeroT_sm⟩,f1.up,f1.le⟩
theorem item_sm (hl : TokSm l) (hk : NumsOk l) (n r : Nat) (hn : 20 * r + 20 ≤ n) (s : RS) (x : It) (s' : RS) (hs : s.at_ ≤ l.length) (hr : mu l s ≤ r) (e : itemQ l n s = some (x,s')) : ItSm x:=by
 have data : ∀ (t : ByteArray) (rd : RS → Option (Fi × RS)) (fs : List Fi) (s2 : RS),Res l rd FiSm → listP l rd (⟨#[125]⟩ : ByteArray) n (mustP l (takeP l (mayP l s t) 3) [(⟨#[123]⟩ : ByteArray)]) = some (fs,s2) → FisSm fs:=fun t rd fs s2 hrd e=>by
  have f1:=may_fw hs t
  have f2:=take_fw f1.le 3
  have f3:=must_fw [(⟨#[123]⟩ : ByteArray)] _ f2.le
  obtain ⟨⟨a,b⟩,_⟩:=list_res hl hrd (⟨#[125]⟩ : ByteArray) n _ fs s2 f3.le e
  exact ⟨b,a⟩
 unfold itemQ at e
 split at e
 ·rename_i hi
  unfold itemP at e
  rw [if_pos hi] at e
  dsimp only at e
  obtain ⟨⟨fs,s2⟩,ht,h2⟩:=Option.map_eq_some_iff.1 e
  cases h2
  exact ⟨text_le hl _ 3,data _ _ fs s2 (field_res hl n) ht,zeroT_sm,sts0,zeroX_sm⟩
 split at e
 ·rename_i h0 hi
  unfold itemP at e
  rw [if_neg h0,if_pos hi] at e
  dsimp only at e
  obtain ⟨⟨fs,s2⟩,ht,h2⟩:=Option.map_eq_some_iff.1 e
  cases h2
  exact ⟨text_le hl _ 3,data _ _ fs s2 (variant_res hl n) ht,zeroT_sm,sts0,zeroX_sm⟩
 ·have f1:=must_fw [(⟨#[102,110]⟩ : ByteArray)] _ hs
  have f2:=take_fw f1.le 2
  have f3:=must_fw [(⟨#[40]⟩ : ByteArray)] _ f2.le
  have m:=((f1.trans f2).trans f3).mu
  split at e
  ·cases e
  rename_i fs s2 h1
  obtain ⟨j2,j3⟩:=(list_tot (r:=r) (field_tot n r (by omega)) (⟨#[41]⟩ : ByteArray) n (by omega)).det f3.le (by omega) h1
  obtain ⟨⟨a1,a2⟩,_⟩:=list_res hl (field_res hl n) (⟨#[41]⟩ : ByteArray) n _ fs s2 f3.le h1
  have f4:=must_fw [(⟨#[45,62]⟩ : ByteArray)] _ j2.le
  have m4:=(j2.trans f4).mu
  split at e
  ·cases e
  rename_i t s3 h2
  obtain ⟨k1,k2,k3⟩:=kind_sm hl n _ t s3 f4.le h2
  obtain ⟨t',s3',g1,g2,g3⟩:=kind_tot n _ f4.le (show mu l _ < n by omega)
  rw [h2] at g1
  cases g1
  have f5:=must_fw [(⟨#[123]⟩ : ByteArray)] _ g2.le
  have m5:=(g2.trans f5).mu
  split at e
  ·cases e
  rename_i b ex s4 h3
  cases e
  obtain ⟨b',s4',i1,i2⟩:=body_tot hk n r hn [] _ f5.le (by omega)
  rw [h3] at i1
  cases i1
  obtain ⟨c1,c2,c3⟩:=body_sm hl hk n r hn [] _ (b,ex) s4 f5.le (by omega) nofun h3
  have:=i2.le
  have:=hl.len
  simp only [List.length_nil] at c2
  exact ⟨text_le hl _ 2,⟨a2,a1⟩,k1,⟨by show b.length ≤ 20000; omega,c1⟩,c3⟩
theorem items_sm (hl : TokSm l) (hk : NumsOk l) (n r : Nat) (hn : 20 * r + 20 ≤ n) : ∀ (f : Nat) (acc : List It) (s : RS) (p : List It) (s' : RS),s.at_ ≤ l.length → mu l s ≤ r → (∀ x ∈ acc,ItSm x) → itemsQ l n f acc s = some (p,s') → (∀ x ∈ p,ItSm x) ∧ p.length + s.at_ ≤ acc.length + s'.at_ + 1
 | 0,acc,s,p,s',_,_,_,e=>by simp [itemsQ] at e
 | f + 1,acc,s,p,s',hs,hr,ha,e=>by
  unfold itemsQ at e
  split at e
  ·rename_i hgo
   obtain ⟨y,s2,j1,j2,j3⟩:=item_tot hk n r hn s hs hr
   have y1:=item_sm hl hk n r hn s y s2 hs hr j1
   have m:=j3.mu j2 hgo.2
   rw [j1] at e
   obtain ⟨a,c⟩:=items_sm hl hk n r hn f (acc ++ [y]) s2 p s' j2.le (by omega) (mem_snoc ha y1) e
   rw [List.length_append,List.length_singleton] at c
   cases hb1 : s2.bad with
   | true =>
    have : p = acc ++ [y] ∧ s' = s2:=by
     cases f with
     | zero=>simp [itemsQ] at e
     | succ f =>
      simp only [itemsQ] at e
      rw [if_neg (by rw [hb1]; simp)] at e
      cases e
      exact ⟨rfl,rfl⟩
    obtain ⟨rfl,rfl⟩:=this
    have:=j2.up
    exact ⟨a,by rw [List.length_append,List.length_singleton]; omega⟩
   | false =>
    have:=j3 hb1
    exact ⟨a,by omega⟩
  ·cases e
   exact ⟨ha,by omega⟩
theorem read_sm (hl : TokSm l) (hk : NumsOk l) (n : Nat) (hn : 20 * 1501 + 20 ≤ n) (f : Nat) {p : List It} {s' : RS} (e : itemsQ l n f [] ⟨0,false,false⟩ = some (p,s')) : PrSm p:=by
 have hll:=hl.len
 have hm : mu l ⟨0,false,false⟩ ≤ 1501:=by
  rw [mu_good rfl]
  unfold rem
  show l.length - 0 + 1 ≤ 1501
  omega
 obtain ⟨a,c⟩:=items_sm hl hk n 1501 hn f [] ⟨0,false,false⟩ p s' (Nat.zero_le _) hm nofun e
 have h1 : s'.at_ ≤ l.length:=by
  have hgen : ∀ (f : Nat) (acc : List It) (s : RS) (p : List It) (s' : RS),s.at_ ≤ l.length → mu l s ≤ 1501 → itemsQ l n f acc s = some (p,s') → s'.at_ ≤ l.length:=by
   intro f
   induction f with
   | zero=>intro acc s p s' _ _ e; simp [itemsQ] at e
   | succ f ih =>
    intro acc s p s' hs hr e
    unfold itemsQ at e
    split at e
    ·obtain ⟨y,s2,j1,j2,j3⟩:=item_tot hk n 1501 hn s hs hr
     rw [j1] at e
     exact ih _ s2 p s' j2.le (by have:=j2.mu; omega) e
    ·cases e
     exact hs
  exact hgen f [] _ p s' (Nat.zero_le _) hm e
 simp only [List.length_nil] at c
 exact ⟨by omega,a⟩
end
end Go.Proofs.YtfiohepfohhibaaDoor
namespace Go.Proofs.YtfiohepfohhibaaDoor
open Go.RowKit
def tokB (l : List Tok) (q : Int) : Bool:=l.any fun t=>(t.pos : Int) == q
mutual
def Ex.atB (l : List Tok) : Ex → Bool
 | .mk _ _ _ _ _ xs pos=>Ex.atBs l xs && tokB l pos
def Ex.atBs (l : List Tok) : List Ex → Bool
 | []=>true
 | x :: r=>Ex.atB l x && Ex.atBs l r
end
theorem atBs_of {l : List Tok} : ∀ {xs : List Ex},(∀ x ∈ xs,Ex.atB l x = true) → Ex.atBs l xs = true
 | [],_=>by rw [Ex.atBs]
 | x :: r,h=>by
  rw [Ex.atBs,h x (by simp),atBs_of fun y hy=>h y (List.mem_cons_of_mem _ hy)]
  rfl
theorem ex_at {l : List Tok} {op int pos : Int} {nm sc : ByteArray} {pl : Pl} {xs : List Ex} (h : ∀ x ∈ xs,Ex.atB l x = true) (hp : tokB l pos = true) : Ex.atB l (.mk op int nm sc pl xs pos) = true:=by
 rw [Ex.atB,atBs_of h,hp]
 rfl
theorem ex_deeps_le {n : Nat} : ∀ {xs : List Ex},(∀ x ∈ xs,x.deep ≤ n) → Ex.deeps xs ≤ n
 | [],_=>by rw [Ex.deeps]; omega
 | x :: r,h=>by
  have h1:=h x (by simp)
  have h2:=ex_deeps_le (xs:=r) fun y hy=>h y (List.mem_cons_of_mem _ hy)
  rw [Ex.deeps]
  omega
theorem ex_dp {a b : Nat} (hab : a ≤ b) {op int pos : Int} {nm sc : ByteArray} {pl : Pl} {xs : List Ex} (h : ∀ x ∈ xs,x.deep + a ≤ b) : (Ex.mk op int nm sc pl xs pos).deep + a ≤ b + 1:=by
 have:=ex_deeps_le (xs:=xs) (n:=b - a) fun x hx=>by have:=h x hx; omega
 rw [Ex.deep]
 omega
theorem ty_dp {a b : Nat} {op : Int} {nm : ByteArray} {t : Ty} (h : t.deep + a ≤ b) : (Ty.mk op nm [t]).deep + a ≤ b + 1:=by
 rw [Ty.deep,Ty.deeps,Ty.deeps]
 omega
theorem tok_mem {l : List Tok} {t : Tok} (h : t ∈ l) : tokB l t.pos = true:=List.any_eq_true.2 ⟨t,h,by simp⟩
theorem tok_get {l : List Tok} {t : Tok} {i : Nat} (h : l[i]? = some t) : tokB l t.pos = true:=tok_mem (List.mem_of_getElem? h)
theorem is_get {l : List Tok} {s : RS} {t : ByteArray} (h : isP l s t 0 = true) : ∃ x,l[s.at_]? = some x:=by
 have:=(is_lt h).2
 exact ⟨_,List.getElem?_eq_getElem this⟩
theorem place_get {l : List Tok} {s : RS} {x : Tok} (h : l[s.at_]? = some x) : placeP l s = x.pos:=by unfold placeP; rw [h]
theorem place_tok {l : List Tok} {s : RS} {t : ByteArray} (h : isP l s t 0 = true) : tokB l (placeP l s) = true:=by
 obtain ⟨x,hx⟩:=is_get h
 rw [place_get hx]
 exact tok_get hx
theorem hand_of {l : List Tok} {s : RS} {x : Tok} {k : Int} (hb : s.bad = false) (hx : l[s.at_]? = some x) (hk : x.kind = k) : handP l s k = true:=by
 unfold handP
 rw [hb,hx]
 simp [hk]
theorem take_at {l : List Tok} {s : RS} {k : Int} (h : handP l s k = true) : (takeP l s k).at_ = s.at_ + 1:=by
 unfold takeP
 rw [if_pos h]
def GR {α : Type} (l : List Tok) (f : RS → Option (α × RS)) (g : α → Nat) (P : α → Prop) : Prop:=∀ (s : RS) (x : α) (s' : RS),s.at_ ≤ l.length → f s = some (x,s') → Fw l s s' ∧ g x + s.at_ ≤ s'.at_ + 1 ∧ (s'.bad = false → P x)
section
variable {l : List Tok}
theorem kind_go : ∀ n,GR l (kindP l n) Ty.deep fun _=>True
 | 0=>fun s t s' _ h=>by simp [kindP] at h
 | n + 1=>fun s t s' hs h=>by
  have leaf : ∀ (k : Int) (nm : ByteArray),(Ty.mk k nm []).deep = 1:=fun k nm=>by rw [Ty.deep,Ty.deeps]
  unfold kindP at h
  split at h
  ·rename_i hi
   dsimp only at h
   obtain ⟨⟨u,s1⟩,hk,he⟩:=Option.map_eq_some_iff.1 h
   obtain ⟨rfl,rfl⟩:=Prod.mk.inj he
   try dsimp only
   have f1:=may_fw hs (⟨#[38]⟩ : ByteArray)
   have p1:=(may_pg hi).1
   have f2:=may_fw f1.le (⟨#[109,117,116]⟩ : ByteArray)
   obtain ⟨k1,k2,k3⟩:=kind_go n _ u s1 f2.le hk
   have:=f2.up
   exact ⟨(f1.trans f2).trans k1,ty_dp (by omega),fun _=>trivial⟩
  split at h
  ·cases h
   have f1:=take_fw hs 3 (s:=s)
   have:=f1.up
   exact ⟨f1,by rw [leaf]; omega,fun _=>trivial⟩
  split at h
  ·cases h
   have f1:=take_fw hs 1 (s:=s)
   have:=f1.up
   exact ⟨f1,by rw [leaf]; omega,fun _=>trivial⟩
  split at h
  ·cases h
   exact ⟨⟨hs,Nat.le_refl _,fun _=>rfl⟩,by rw [show zeroT = Ty.mk 0 emS [] from rfl,leaf]; show 1 + s.at_ ≤ s.at_ + 1; omega,fun h=>by cases h⟩
  ·rename_i k hk0
   obtain ⟨⟨u,s1⟩,hk,he⟩:=Option.map_eq_some_iff.1 h
   obtain ⟨rfl,rfl⟩:=Prod.mk.inj he
   try dsimp only
   have hb : handP l s 1 = true:=by
    cases hb : handP l s 1 with
    | true=>rfl
    | false =>
     unfold takeT at hk0
     rw [hb,if_neg (by simp)] at hk0
     have : findK emS wrapK = none:=by kernel_rfl
     rw [this] at hk0; cases hk0
   have f1:=take_fw hs 1 (s:=s)
   have p1:=take_at hb
   have f2:=must_fw [(⟨#[60]⟩ : ByteArray)] _ f1.le
   obtain ⟨k1,k2,k3⟩:=kind_go n _ u s1 f2.le hk
   have f3:=must_fw [(⟨#[62]⟩ : ByteArray)] _ k1.le
   have:=f2.up
   have:=f3.up
   exact ⟨((f1.trans f2).trans k1).trans f3,ty_dp (by omega),fun _=>trivial⟩
theorem listL_go {α : Type} {rd : RS → Option (α × RS)} {g : α → Nat} {P : α → Prop} (hrd : GR l rd g P) : ∀ (n : Nat) (acc : List α) (s : RS) (xs : List α) (s' : RS) (B : Nat),s.at_ ≤ l.length → B ≤ s.at_ → (∀ x ∈ acc,g x + B ≤ s.at_ + 1) → (s.bad = false → ∀ x ∈ acc,P x) → listL l rd n acc s = some (xs,s') → Fw l s s' ∧ (∀ x ∈ xs,g x + B ≤ s'.at_ + 1) ∧ (s'.bad = false → ∀ x ∈ xs,P x)
 | 0,acc,s,xs,s',B,_,_,_,_,h=>by simp [listL] at h
 | n + 1,acc,s,xs,s',B,hs,hB,hd,ha,h=>by
  unfold listL at h
  split at h
  ·rename_i hi
   have f1:=may_fw hs (⟨#[44]⟩ : ByteArray)
   have p1:=may_pg hi
   split at h
   ·cases h
   rename_i x s1 hr
   obtain ⟨k1,k2,k3⟩:=hrd _ x s1 f1.le hr
   have u1:=k1.up
   have hb0 : s1.bad = false → s.bad = false:=fun hb=>by
    cases hc : s.bad with
    | false=>rfl
    | true=>rw [(f1.trans k1).bad hc] at hb; cases hb
   obtain ⟨j1,j2,j3⟩:=listL_go hrd n (acc ++ [x]) s1 xs s' B k1.le (by omega) (fun z hz=>by
    rcases List.mem_append.1 hz with h | h
    ·have:=hd z h; omega
    ·obtain rfl : z = x:=by simpa using h
     omega) (fun hb z hz=>by
    rcases List.mem_append.1 hz with h | h
    ·exact ha (hb0 hb) z h
    ·obtain rfl : z = x:=by simpa using h
     exact k3 hb) h
   exact ⟨(f1.trans k1).trans j1,j2,j3⟩
  ·cases h
   exact ⟨.refl hs,hd,ha⟩
theorem good_of {s s' : RS} (f : Fw l s s') (h : s'.bad = false) : s.bad = false:=by
 cases hc : s.bad with
 | false=>rfl
 | true=>rw [f.bad hc] at h; cases h
theorem list_go {α : Type} {rd : RS → Option (α × RS)} {g : α → Nat} {P : α → Prop} (hrd : GR l rd g P) (e : ByteArray) (n : Nat) (s : RS) (xs : List α) (s' : RS) (hs : s.at_ ≤ l.length) (h : listP l rd e n s = some (xs,s')) : Fw l s s' ∧ (∀ x ∈ xs,g x + s.at_ ≤ s'.at_ + 1) ∧ (s'.bad = false → ∀ x ∈ xs,P x):=by
 unfold listP at h
 split at h
 ·cases h
  exact ⟨may_fw hs e,nofun,fun _=>nofun⟩
 ·split at h
  ·cases h
  rename_i x s1 hr
  obtain ⟨k1,k2,k3⟩:=hrd s x s1 hs hr
  obtain ⟨⟨ys,s2⟩,hL,he⟩:=Option.map_eq_some_iff.1 h
  obtain ⟨rfl,rfl⟩:=Prod.mk.inj he
  try dsimp only
  obtain ⟨j1,j2,j3⟩:=listL_go hrd n [x] s1 ys s2 s.at_ k1.le k1.up (fun z hz=>by
   obtain rfl : z = x:=by simpa using hz
   omega) (fun hb z hz=>by
   obtain rfl : z = x:=by simpa using hz
   exact k3 hb) hL
  have f3:=must_fw [e] _ j1.le
  have f4:=few_fw f3.le ys.length
  have u:=(f3.trans f4).up
  exact ⟨((k1.trans j1).trans f3).trans f4,fun z hz=>by have:=j2 z hz; omega,fun hb=>j3 (good_of (f3.trans f4) hb)⟩
theorem pathL_fw : ∀ (n : Nat) (acc : List ByteArray) (s : RS) (xs : List ByteArray) (s' : RS),s.at_ ≤ l.length → pathL l n acc s = some (xs,s') → Fw l s s'
 | 0,acc,s,xs,s',_,h=>by simp [pathL] at h
 | n + 1,acc,s,xs,s',hs,h=>by
  unfold pathL at h
  split at h
  ·have f1:=may_fw hs (⟨#[46]⟩ : ByteArray)
   dsimp only at h
   split at h
   ·have f2:=may_fw f1.le (⟨#[42]⟩ : ByteArray)
    exact (f1.trans f2).trans (pathL_fw n _ _ xs s' f2.le h)
   ·have f2:=take_fw f1.le 2
    exact (f1.trans f2).trans (pathL_fw n _ _ xs s' f2.le h)
  ·cases h
   exact .refl hs
theorem path_fw {n : Nat} {s : RS} {p : Pl} {s' : RS} (hs : s.at_ ≤ l.length) (h : pathP l n s = some (p,s')) : Fw l s s':=by
 unfold pathP at h
 obtain ⟨⟨ys,s2⟩,hL,he⟩:=Option.map_eq_some_iff.1 h
 obtain ⟨rfl,rfl⟩:=Prod.mk.inj he
 try dsimp only
 have f1:=take_fw hs 2 (s:=s)
 exact f1.trans (pathL_fw n _ _ ys s2 f1.le hL)
abbrev ExG (l : List Tok) (rd : RS → Option (Ex × RS)) : Prop:=GR l rd Ex.deep fun x=>Ex.atB l x = true
theorem mem_one {α : Type} {P : α → Prop} {x : α} (h : P x) : ∀ z ∈ [x],P z:=fun z hz=>by
 obtain rfl : z = x:=by simpa using hz
 exact h
theorem lent_go {rd : RS → Option (Ex × RS)} (hrd : ExG l rd) (n : Nat) : ExG l (lentQ l n rd):=fun s x s' hs h=>by
 unfold lentQ at h
 split at h
 ·rename_i hi
  have f1:=may_fw hs (⟨#[38]⟩ : ByteArray)
  have f2:=may_fw f1.le (⟨#[109,117,116]⟩ : ByteArray)
  obtain ⟨⟨u,s1⟩,hk,he⟩:=Option.map_eq_some_iff.1 h
  obtain ⟨rfl,rfl⟩:=Prod.mk.inj he
  try dsimp only
  have f3:=path_fw f2.le hk
  have f:=(f1.trans f2).trans f3
  have:=f.up
  exact ⟨f,ex_dp this nofun,fun _=>ex_at nofun (place_tok hi)⟩
 ·exact hrd s x s' hs h
theorem hand_go {rd : RS → Option (Ex × RS)} (hrd : ExG l rd) : GR l (handQ l rd) (fun r=>r.2.deep) fun r=>Ex.atB l r.2 = true:=fun s x s' hs h=>by
 unfold handQ at h
 have f1:=take_fw hs 2 (s:=s)
 have f2:=must_fw [(⟨#[61]⟩ : ByteArray)] _ f1.le
 obtain ⟨⟨u,s1⟩,hk,he⟩:=Option.map_eq_some_iff.1 h
 obtain ⟨rfl,rfl⟩:=Prod.mk.inj he
 try dsimp only
 obtain ⟨k1,k2,k3⟩:=hrd _ u s1 f2.le hk
 have:=(f1.trans f2).up
 exact ⟨(f1.trans f2).trans k1,by omega,k3⟩
theorem called_go {rd : RS → Option (Ex × RS)} (hrd : ExG l rd) (n : Nat) (op pos : Int) (hp : tokB l pos = true) (s : RS) (x : Ex) (s' : RS) (hs : s.at_ ≤ l.length) (h : calledQ l n rd op pos s = some (x,s')) : Fw l s s' ∧ x.deep + s.at_ ≤ s'.at_ + 2 ∧ (s'.bad = false → Ex.atB l x = true):=by
 have f1:=must_fw [(⟨#[40]⟩ : ByteArray)] _ hs
 have u1:=f1.up
 unfold calledQ at h
 split at h
 ·obtain ⟨⟨u,s1⟩,hk,he⟩:=Option.map_eq_some_iff.1 h
  obtain ⟨rfl,rfl⟩:=Prod.mk.inj he
  try dsimp only
  have f2:=path_fw f1.le hk
  have f3:=must_fw [(⟨#[41]⟩ : ByteArray)] _ f2.le
  have f:=(f1.trans f2).trans f3
  have:=f.up
  exact ⟨f,Nat.le_succ_of_le (ex_dp this nofun),fun _=>ex_at nofun hp⟩
 split at h
 ·split at h
  ·cases h
  rename_i u s1 hk
  have f2:=path_fw f1.le hk
  have f3:=must_fw [(⟨#[44]⟩ : ByteArray)] _ f2.le
  obtain ⟨⟨v,s2⟩,hk,he⟩:=Option.map_eq_some_iff.1 h
  obtain ⟨rfl,rfl⟩:=Prod.mk.inj he
  try dsimp only
  obtain ⟨j1,j2,j3⟩:=hrd _ v s2 f3.le hk
  have f4:=must_fw [(⟨#[41]⟩ : ByteArray)] _ j1.le
  have u2:=(f2.trans f3).up
  have u4:=f4.up
  have u5:=j1.up
  exact ⟨(((f1.trans f2).trans f3).trans j1).trans f4,ex_dp (by omega) (mem_one (by omega)),fun hb=>ex_at (mem_one (j3 (good_of f4 hb))) hp⟩
 ·obtain ⟨⟨v,s2⟩,hk,he⟩:=Option.map_eq_some_iff.1 h
  obtain ⟨rfl,rfl⟩:=Prod.mk.inj he
  try dsimp only
  obtain ⟨j1,j2,j3⟩:=hrd _ v s2 f1.le hk
  have f4:=must_fw [(⟨#[41]⟩ : ByteArray)] _ j1.le
  have u4:=f4.up
  have u5:=j1.up
  exact ⟨(f1.trans j1).trans f4,ex_dp (by omega) (mem_one (by omega)),fun hb=>ex_at (mem_one (j3 (good_of f4 hb))) hp⟩
theorem upper_go {rd : RS → Option (Ex × RS)} (hrd : ExG l rd) (n : Nat) (pos : Int) (hp : tokB l pos = true) (s : RS) (x : Ex) (s' : RS) (hs : s.at_ ≤ l.length) (hh : handP l s 3 = true) (h : upperQ l n rd pos s = some (x,s')) : Fw l s s' ∧ x.deep + s.at_ ≤ s'.at_ + 1 ∧ (s'.bad = false → Ex.atB l x = true):=by
 have f1:=take_fw hs 3 (s:=s)
 have p1:=take_at hh
 unfold upperQ at h
 split at h
 ·have f2:=may_fw f1.le (⟨#[123]⟩ : ByteArray)
  obtain ⟨⟨u,s1⟩,hk,he⟩:=Option.map_eq_some_iff.1 h
  obtain ⟨rfl,rfl⟩:=Prod.mk.inj he
  try dsimp only
  obtain ⟨k1,k2,k3⟩:=list_go (hand_go hrd) (⟨#[125]⟩ : ByteArray) n _ u s1 f2.le hk
  have u2:=f2.up
  have u3:=k1.up
  refine ⟨(f1.trans f2).trans k1,ex_dp (by omega) fun y hy=>?_,fun hb=>ex_at (fun y hy=>?_) hp⟩
  ·obtain ⟨z,hz,rfl⟩:=List.mem_map.1 hy
   have:=k2 z hz
   omega
  ·obtain ⟨z,hz,rfl⟩:=List.mem_map.1 hy
   exact k3 hb z hz
 ·have f2:=must_fw [(⟨#[46]⟩ : ByteArray)] _ f1.le
  have f3:=take_fw f2.le 3
  simp only at h
  have u3:=(f2.trans f3).up
  split at h
  ·have f4:=may_fw f3.le (⟨#[40]⟩ : ByteArray)
   obtain ⟨⟨u,s1⟩,hk,he⟩:=Option.map_eq_some_iff.1 h
   obtain ⟨rfl,rfl⟩:=Prod.mk.inj he
   try dsimp only
   obtain ⟨k1,k2,k3⟩:=hrd _ u s1 f4.le hk
   have f5:=must_fw [(⟨#[41]⟩ : ByteArray)] _ k1.le
   have u4:=f4.up
   have u5:=f5.up
   have u6:=k1.up
   exact ⟨((((f1.trans f2).trans f3).trans f4).trans k1).trans f5,ex_dp (by omega) (mem_one (by omega)),fun hb=>ex_at (mem_one (k3 (good_of f5 hb))) hp⟩
  ·cases h
   have f:=(f1.trans f2).trans f3
   exact ⟨f,ex_dp f.up nofun,fun _=>ex_at nofun hp⟩
theorem zeroX_dp : zeroX.deep = 1:=by
 unfold zeroX
 rw [Ex.deep,Ex.deeps]
theorem simple_go {rd : RS → Option (Ex × RS)} (hrd : ExG l rd) (n : Nat) : ExG l (simpleQ l n rd):=fun s x s' hs h=>by
 unfold simpleQ at h
 split at h
 ·rename_i hb
  cases h
  exact ⟨.refl hs,by rw [zeroX_dp]; omega,fun h=>by rw [hb] at h; cases h⟩
 rename_i hb0
 have hb : s.bad = false:=by simpa using hb0
 cases hx : l[s.at_]? with
 | none =>
  rw [hx] at h
  cases h
  exact ⟨⟨hs,Nat.le_refl _,fun _=>rfl⟩,by rw [zeroX_dp]; show 1 + s.at_ ≤ s.at_ + 1; omega,fun h=>by cases h⟩
 | some t =>
 rw [hx] at h
 have hlt:=(List.getElem?_eq_some_iff.1 hx).1
 have hp:=tok_get hx
 have f0 : Fw l s ⟨s.at_ + 1,s.bad,s.full⟩:=⟨hlt,Nat.le_succ _,id⟩
 simp only at h
 split at h
 ·obtain ⟨v,hv,he⟩:=Option.map_eq_some_iff.1 h
  obtain ⟨rfl,rfl⟩:=Prod.mk.inj he
  try dsimp only
  exact ⟨f0,ex_dp (Nat.le_succ _) nofun,fun _=>ex_at nofun hp⟩
 split at h
 ·rename_i h3
  exact upper_go hrd n t.pos hp s x s' hs (hand_of hb hx h3) h
 split at h
 ·rename_i h2
  split at h
  ·have f1:=take_fw hs 2 (s:=s)
   have p1:=take_at (hand_of hb hx h2)
   have f2:=must_fw [(⟨#[40]⟩ : ByteArray)] _ f1.le
   obtain ⟨⟨u,s1⟩,hk,he⟩:=Option.map_eq_some_iff.1 h
   obtain ⟨rfl,rfl⟩:=Prod.mk.inj he
   try dsimp only
   obtain ⟨k1,k2,k3⟩:=list_go (lent_go hrd n) (⟨#[41]⟩ : ByteArray) n _ u s1 f2.le hk
   have u2:=f2.up
   have u3:=k1.up
   exact ⟨(f1.trans f2).trans k1,ex_dp (by omega) fun y hy=>by have:=k2 y hy; omega,fun hb=>ex_at (k3 hb) hp⟩
  ·obtain ⟨⟨u,s1⟩,hk,he⟩:=Option.map_eq_some_iff.1 h
   obtain ⟨rfl,rfl⟩:=Prod.mk.inj he
   try dsimp only
   have f:=path_fw hs hk
   exact ⟨f,ex_dp f.up nofun,fun _=>ex_at nofun hp⟩
 split at h
 ·obtain ⟨k1,k2,k3⟩:=called_go hrd n _ _ hp _ x s' f0.le h
  have k2 : x.deep + (s.at_ + 1) ≤ s'.at_ + 2:=k2
  exact ⟨f0.trans k1,by omega,k3⟩
 ·split at h
  ·cases h
   have f:=may_fw hs (⟨#[116,114,117,101]⟩ : ByteArray)
   exact ⟨f,ex_dp f.up nofun,fun _=>ex_at nofun hp⟩
  split at h
  ·cases h
   have f:=may_fw hs (⟨#[102,97,108,115,101]⟩ : ByteArray)
   exact ⟨f,ex_dp f.up nofun,fun _=>ex_at nofun hp⟩
  have f1:=must_fw [(⟨#[40]⟩ : ByteArray)] _ hs
  split at h
  ·cases h
   have f:=f1.trans (may_fw f1.le (⟨#[41]⟩ : ByteArray))
   exact ⟨f,ex_dp f.up nofun,fun _=>ex_at nofun hp⟩
  ·obtain ⟨⟨u,s1⟩,hk,he⟩:=Option.map_eq_some_iff.1 h
   obtain ⟨rfl,rfl⟩:=Prod.mk.inj he
   try dsimp only
   obtain ⟨k1,k2,k3⟩:=hrd _ u s1 f1.le hk
   have f3:=must_fw [(⟨#[41]⟩ : ByteArray)] _ k1.le
   have u1:=f1.up
   have u3:=f3.up
   exact ⟨(f1.trans k1).trans f3,by omega,fun hb=>k3 (good_of f3 hb)⟩
theorem mem_two {α : Type} {P : α → Prop} {x y : α} (h : P x) (k : P y) : ∀ z ∈ [x,y],P z:=fun z hz=>by
 simp only [List.mem_cons,List.not_mem_nil,or_false] at hz
 rcases hz with rfl | rfl
 ·exact h
 ·exact k
theorem signs_go {rd : RS → Option (Ex × RS)} (hrd : ExG l rd) (k : Nat) : ∀ (n : Nat) (e : Ex) (s : RS) (x : Ex) (s' : RS) (B : Nat),B ≤ s.at_ → e.deep + B ≤ s.at_ + 1 → (s.bad = false → Ex.atB l e = true) → s.at_ ≤ l.length → signsQ l rd k n e s = some (x,s') → Fw l s s' ∧ x.deep + B ≤ s'.at_ + 1 ∧ (s'.bad = false → Ex.atB l x = true)
 | 0,e,s,x,s',B,_,_,_,_,h=>by simp [signsQ] at h
 | n + 1,e,s,x,s',B,hB,hd,he,hs,h=>by
  unfold signsQ at h
  split at h
  ·cases h
   exact ⟨.refl hs,hd,he⟩
  rename_i hb0
  have hb : s.bad = false:=by simpa using hb0
  cases hx : l[s.at_]? with
  | none =>
   rw [hx] at h
   cases h
   exact ⟨.refl hs,hd,he⟩
  | some t =>
  rw [hx] at h
  have hlt:=(List.getElem?_eq_some_iff.1 hx).1
  have hp:=tok_get hx
  have f0 : Fw l s ⟨s.at_ + 1,s.bad,s.full⟩:=⟨hlt,Nat.le_succ _,id⟩
  simp only at h
  split at h
  ·cases h
   exact ⟨.refl hs,hd,he⟩
  ·rename_i op hop
   split at h
   ·cases h
   rename_i r s1 hr
   obtain ⟨k1,k2,k3⟩:=hrd ⟨s.at_ + 1,s.bad,s.full⟩ r s1 hlt hr
   have k2 : r.deep + (s.at_ + 1) ≤ s1.at_ + 1:=k2
   have u1 : s.at_ + 1 ≤ s1.at_:=k1.up
   have hd2 : (ex0 op 0 emS [e,r] t.pos).deep + B ≤ s1.at_ + 1:=ex_dp (by omega) (mem_two (by omega) (by omega))
   have ha2 : s1.bad = false → Ex.atB l (ex0 op 0 emS [e,r] t.pos) = true:=fun hb1=>ex_at (mem_two (he hb) (k3 hb1)) hp
   split at h
   ·cases h
    exact ⟨f0.trans k1,hd2,ha2⟩
   ·obtain ⟨j1,j2,j3⟩:=signs_go hrd k n _ s1 x s' B (by omega) hd2 ha2 k1.le h
    exact ⟨(f0.trans k1).trans j1,j2,j3⟩
theorem strong_go : ∀ (n j : Nat),ExG l (strongQ l n j):=by
 intro n
 induction n with
 | zero=>intro j s x s' _ h; simp [strongQ] at h
 | succ n ih =>
 intro j s x s' hs h
 have bad : s.bad = true → some (zeroX,s) = some (x,s') → Fw l s s' ∧ x.deep + s.at_ ≤ s'.at_ + 1 ∧ (s'.bad = false → Ex.atB l x = true):=fun hb h=>by
  cases h
  exact ⟨.refl hs,by rw [zeroX_dp]; omega,fun h=>by rw [hb] at h; cases h⟩
 have one : ∀ (t : ByteArray) (op : Int) (j : Nat) (u : Ex) (s1 : RS),isP l s t 0 = true → strongQ l n j (mayP l s t) = some (u,s1) → Fw l s s1 ∧ (ex0 op 0 emS [u] (placeP l s)).deep + s.at_ ≤ s1.at_ + 1 ∧ (s1.bad = false → Ex.atB l (ex0 op 0 emS [u] (placeP l s)) = true):=fun t op j u s1 hi hk=>by
  have f1:=may_fw hs t
  have p1:=(may_pg hi).1
  obtain ⟨k1,k2,k3⟩:=ih j _ u s1 f1.le hk
  have u1:=k1.up
  exact ⟨f1.trans k1,ex_dp (by omega) (mem_one (by omega)),fun hb=>ex_at (mem_one (k3 hb)) (place_tok hi)⟩
 cases j with
 | zero =>
  unfold strongQ at h
  split at h
  ·rename_i hb
   exact bad hb h
  split at h
  ·rename_i hi
   obtain ⟨⟨u,s1⟩,hk,he⟩:=Option.map_eq_some_iff.1 h
   obtain ⟨rfl,rfl⟩:=Prod.mk.inj he
   try dsimp only
   exact one _ _ 0 u s1 hi hk
  ·exact simple_go (ih 6) n s x s' hs h
 | succ j =>
  unfold strongQ at h
  split at h
  ·rename_i hb
   exact bad hb h
  split at h
  ·rename_i hi
   obtain ⟨⟨u,s1⟩,hk,he⟩:=Option.map_eq_some_iff.1 h
   obtain ⟨rfl,rfl⟩:=Prod.mk.inj he
   try dsimp only
   exact one _ _ 4 u s1 hi.2 hk
  ·split at h
   ·cases h
   rename_i e s1 hr
   obtain ⟨k1,k2,k3⟩:=ih j s e s1 hs hr
   obtain ⟨j1,j2,j3⟩:=signs_go (ih j) (5 - j) n e s1 x s' s.at_ k1.up k2 k3 k1.le h
   exact ⟨k1.trans j1,j2,j3⟩
end
end Go.Proofs.YtfiohepfohhibaaDoor
