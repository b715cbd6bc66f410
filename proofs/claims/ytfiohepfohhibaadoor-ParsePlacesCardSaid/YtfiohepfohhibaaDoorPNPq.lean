/- A part of the proof. The statement is proved in the claim's last text. -/
import Derived.Test.YtfiohepfohhibaaDoorPMPt
import Derived.Test.YtfiohepfohhibaaDoorPMLt
import Derived.Test.YtfiohepfohhibaaDoorPMLx
import Derived.Laws.ResultCell
set_option linter.unusedVariables false
set_option linter.unusedSimpArgs false
set_option maxRecDepth 100000
set_option maxHeartbeats 32000000
namespace Go.Proofs.YtfiohepfohhibaaDoor
open Go.RowKit
attribute [local simp] List.replicate List.range List.range.loop resA resOne retA virtL virtO virt_get markL markO markR_get rowA awpI_nil awpI_cons List.forall_mem_cons List.contains_cons List.contains_nil List.find? nextD_eq awpD_nil awpD_cons LCp LCl refL
abbrev rdO (l : List Tok) (s : RS) : AObj:=.cells [.p (.sl 3 (l.map Tok.enc)),I s.at_,B s.bad,B s.full] 56
structure RAt (S : ASt) (d i : Nat) (l : List Tok) (s : RS) : Prop where
 o : get2 S d i = some (rdO l s)
 le : s.at_ ≤ l.length
 n : l.length ≤ 1500
theorem RAt.push {S : ASt} {d i : Nat} {l : List Tok} {s : RS} (h : RAt S d i l s) (L : List AObj) : RAt (L :: S) (d + 1) i l s:=⟨h.o,h.le,h.n⟩
theorem RAt.upd {S : ASt} {d i : Nat} {l : List Tok} {s : RS} (h : RAt S d i l s) (s' : RS) (hl : s'.at_ ≤ l.length) : RAt (set2 S d i (rdO l s')) d i l s':=⟨by rw [get2_set2,h.o]; rfl,hl,h.n⟩
theorem RAt.same {S : ASt} {d i : Nat} {l : List Tok} {s : RS} (h : RAt S d i l s) : set2 S d i (rdO l s) = S:=set2_same h.o
theorem wrap_nat {a b : Nat} (h : a + b ≤ maxLen) : IntKind.i64.wrap ((a : Int) + (b : Int)) = ((a + b : Nat) : Int):=by
 unfold maxLen at h
 rw [IntWalk.i64_in _ (by omega)]; omega
theorem rAtC {S : ASt} {d i : Nat} {l : List Tok} {s : RS} (h : RAt S d i l s) : ADet Tryd.prog 16 [.ptr d i 0] S (I (placeP l s)) S:=by
 have ho:=h.o
 have hle:=h.le
 refine ADet.intro mixed Tryd.call16 Tryd.func16 rfl ?_
 simp [Tryd.ntmps16]
 refine awp_draw [] (by kernel_rfl) (by kernel_rfl) ?_
 unfold placeP
 by_cases hlt : s.at_ < l.length
 ·have hlt' : (s.at_ : Int) < (l.length : Int):=by omega
  obtain ⟨t,ht⟩ : ∃ t,l[s.at_]? = some t:=⟨_,List.getElem?_eq_getElem hlt⟩
  simp [ho,hlt',hlt]
  refine awp_draw [] (by kernel_rfl) (by kernel_rfl) ?_
  simp [ho,hlt',hlt,ht,Tok.enc]
 ·have hlt' : ¬ (s.at_ : Int) < (l.length : Int):=by omega
  have hn : l[s.at_]? = none:=List.getElem?_eq_none (by omega)
  simp [ho,hlt',hlt,hn]
theorem isC {S : ASt} {d i : Nat} {l : List Tok} {s : RS} (h : RAt S d i l s) (t : ByteArray) (k : Nat) (hk : k ≤ 1) : ADet Tryd.prog 40 [.ptr d i 0,Sg t,I k] S (B (isP l s t k)) S:=by
 have ho:=h.o
 have hle:=h.le
 have hn:=h.n
 have hw : IntKind.i64.wrap ((s.at_ : Int) + (k : Int)) = ((s.at_ + k : Nat) : Int):=wrap_nat (by unfold maxLen; omega)
 obtain ⟨Q,hQ⟩ : ∃ Q,Q = s.at_ + k:=⟨_,rfl⟩
 rw [← hQ] at hw
 refine ADet.intro mixed Tryd.call40 Tryd.func40 rfl ?_
 simp [Tryd.ntmps40]
 refine awp_draw [] (by kernel_rfl) (by kernel_rfl) ?_
 unfold isP
 rw [← hQ]
 cases hb : s.bad with
 | true=>simp [ho,hb]
 | false =>
  by_cases hlt : Q < l.length
  ·have hlt' : (Q : Int) < (l.length : Int):=by omega
   obtain ⟨x,ht⟩ : ∃ t,l[Q]? = some t:=⟨_,List.getElem?_eq_getElem hlt⟩
   simp [ho,hb,hw,hlt',hlt,ht,Tok.enc]
  ·have hlt' : ¬ (Q : Int) < (l.length : Int):=by omega
   have hn : l[Q]? = none:=List.getElem?_eq_none (by omega)
   simp [ho,hb,hw,hlt',hlt,hn]
theorem isP_lt {l : List Tok} {s : RS} {t : ByteArray} {k : Nat} (h : isP l s t k = true) : s.at_ + k < l.length:=by
 unfold isP at h
 rcases Nat.lt_or_ge (s.at_ + k) l.length with hl | hl
 ·exact hl
 ·rw [List.getElem?_eq_none hl] at h; simp at h
theorem mayP_le {l : List Tok} {s : RS} (t : ByteArray) (h : s.at_ ≤ l.length) : (mayP l s t).at_ ≤ l.length:=by
 unfold mayP
 split
 ·rename_i hi; have:=isP_lt hi; show s.at_ + 1 ≤ _; omega
 ·exact h
theorem mayC {S : ASt} {d i : Nat} {l : List Tok} {s : RS} (h : RAt S d i l s) (t : ByteArray) : ADet Tryd.prog 17 [.ptr d i 0,Sg t] S (B (isP l s t 0)) (set2 S d i (rdO l (mayP l s t))):=by
 have ho:=h.o
 have hle:=h.le
 have hn:=h.n
 have hw : IntKind.i64.wrap ((s.at_ : Int) + 1) = ((s.at_ + 1 : Nat) : Int):=wrap_nat (b:=1) (by unfold maxLen; omega)
 refine ADet.intro mixed Tryd.call17 Tryd.func17 rfl ?_
 simp [Tryd.ntmps17]
 refine ⟨_,_,isC (h.push _) t 0 (by omega),?_⟩
 unfold mayP
 cases hi : isP l s t 0 with
 | true =>
  simp [ho,hw]
  rfl
 | false =>
  have:=h.same
  simp [ho]
  exact this.symm
end Go.Proofs.YtfiohepfohhibaaDoor
namespace Go.Proofs.YtfiohepfohhibaaDoor
open Go.RowKit
attribute [local simp] List.replicate List.range List.range.loop resA resOne retA AV.cuts AV.cut AObj.cut trim wkR wkT wkL wkN wkNR wkNL wkM wkMR wkML virtL virtO virt_get markL markO markR_get rowA awpI_nil awpI_cons List.forall_mem_cons List.contains_cons List.contains_nil List.find? nextD_eq awpD_nil awpD_cons LCp LCl refL
def RdC (F : Nat) (args : List AV) (l : List Tok) (s s' : RS) (r : AV) : Prop:=∀ (S : ASt) (d i : Nat),RAt S d i l s → ADet Tryd.prog F (.ptr d i 0 :: args) S r (set2 S d i (rdO l s'))
theorem RdC.at {F : Nat} {args : List AV} {l : List Tok} {s s1 s2 : RS} {r : AV} (hw : RdC F args l s1 s2 r) {S : ASt} {d i : Nat} (h : RAt S d i l s) (h1 : s1.at_ ≤ l.length) (L : List AObj) :
  ADet Tryd.prog F (.ptr (d + 1) i 0 :: args) (L :: set2 S d i (rdO l s1)) r (L :: set2 S d i (rdO l s2)):=by
 have:=hw _ _ i ((h.upd s1 h1).push L)
 rw [set2_suc,set2_set2] at this
 exact this
theorem RdC.intro {F : Nat} {args : List AV} {l : List Tok} {s s' : RS} {r : AV} (hw : ∀ (S : ASt) (d i : Nat),RAt S d i l s → ADet Tryd.prog F (.ptr d i 0 :: args) (set2 S d i (rdO l s)) r (set2 S d i (rdO l s'))) : RdC F args l s s' r:=fun S d i h=>by
 have:=hw S d i h
 rw [h.same] at this
 exact this
theorem mayW {l : List Tok} (s : RS) (t : ByteArray) : RdC 17 [Sg t] l s (mayP l s t) (B (isP l s t 0)):=fun S d i h=>mayC h t
theorem mustP_le {l : List Tok} : ∀ (ts : List ByteArray) (s : RS),s.at_ ≤ l.length → (mustP l s ts).at_ ≤ l.length
 | [],s,h=>h
 | t :: ts,s,h=>mustP_le ts _ (mayP_le t h)
theorem mustW {l : List Tok} (s : RS) (ts : List ByteArray) (hts : ts.length ≤ 10) (hs : s.at_ ≤ l.length) : RdC 19 [.p (.sl 1 (ts.map fun t=>[pS t]))] l s (mustP l s ts) .un:=RdC.intro fun S d i h=>by
 refine ADet.intro mixed Tryd.call19 Tryd.func19 rfl ?_
 simp [Tryd.ntmps19]
 refine awp_loop (fun a : Nat × RS=>a.1 ≤ ts.length ∧ a.2.at_ ≤ l.length ∧ mustP l a.2 (ts.drop a.1) = mustP l s ts) (fun a=>[.ptr (d + 1) i 0,.any,.any,.any,.any,.any,.p (.sl 1 (ts.map fun t=>[pS t])),I ts.length,I a.1,.any,.any,.any,.any,.any,.any,.any,.any,.any,.any,.any]) (fun a=>[] :: set2 S d i (rdO l a.2)) (fun a=>ts.length - a.1) (0,s) ⟨Nat.zero_le _,hs,rfl⟩ ?_ ?_ ?_
 ·simp
 ·simp
 rintro ⟨q,s1⟩ ⟨hq,h1,hm⟩
 simp only at hq h1 hm
 by_cases hlt : q < ts.length
 ·have hlt' : (q : Int) < (ts.length : Int):=by omega
  obtain ⟨t,ht⟩ : ∃ t,ts[q]? = some t:=⟨_,List.getElem?_eq_getElem hlt⟩
  have hd : ts.drop q = t :: ts.drop (q + 1):=by
   rw [List.drop_eq_getElem_cons hlt]
   congr 1
   exact Option.some.inj ((List.getElem?_eq_getElem hlt).symm.trans ht)
  rw [hd] at hm
  have mC:=fun L=>(mayW s1 t).at h h1 L
  have ho:=(h.upd (mayP l s1 t) (mayP_le t h1)).o
  have hfin : set2 (set2 S d i (rdO l (mayP l s1 t))) d i (rdO l ⟨(mayP l s1 t).at_,!isP l s1 t 0,s1.full⟩) = set2 S d i (rdO l ⟨(mayP l s1 t).at_,!isP l s1 t 0,s1.full⟩):=set2_set2 _ _ _ _ _
  have hfull : (mayP l s1 t).full = s1.full:=by unfold mayP; split <;> rfl
  simp [hlt',ht]
  refine ⟨_,_,mC _,?_⟩
  simp [ho]
  exact ⟨q + 1,⟨(mayP l s1 t).at_,!isP l s1 t 0,s1.full⟩,⟨by omega,mayP_le t h1,hm⟩,by omega,wrap_succ hlt (by unfold maxLen; omega),by rw [hfull]⟩
 ·have hlt' : ¬ (q : Int) < (ts.length : Int):=by omega
  have hd : ts.drop q = []:=List.drop_of_length_le (by omega)
  rw [hd] at hm
  have hm : s1 = mustP l s ts:=hm
  simp [hlt',hm]
theorem takeW {l : List Tok} (s : RS) (k : Int) : RdC 41 [U k] l s (takeP l s k) (Sg (takeT l s k)):=fun S d i h=>by
 have ho:=h.o
 have hle:=h.le
 have hn:=h.n
 have hw : IntKind.i64.wrap ((s.at_ : Int) + 1) = ((s.at_ + 1 : Nat) : Int):=wrap_nat (b:=1) (by unfold maxLen; omega)
 refine ADet.intro mixed Tryd.call41 Tryd.func41 rfl ?_
 simp [Tryd.ntmps41]
 refine awp_draw [] (by kernel_rfl) (by kernel_rfl) ?_
 unfold takeP takeT handP
 cases hb : s.bad with
 | true =>
  simp [ho,hb]
 | false =>
  by_cases hlt : s.at_ < l.length
  ·have hlt' : (s.at_ : Int) < (l.length : Int):=by omega
   have hlt2 : ¬ (l.length : Int) ≤ (s.at_ : Int):=by omega
   obtain ⟨x,ht⟩ : ∃ t,l[s.at_]? = some t:=⟨_,List.getElem?_eq_getElem hlt⟩
   by_cases hk : x.kind = k
   ·have hw2 : IntKind.i64.wrap (s.at_ : Int) = (s.at_ : Int):=IntWalk.i64_in _ (by omega)
    simp [ho,hb,hlt',hlt2,ht,Tok.enc,hk,hw]
    refine awp_draw [] (by kernel_rfl) (by kernel_rfl) ?_
    simp [ho,hb,hlt',hlt2,ht,Tok.enc,hk,hw,hw2]
    rfl
   ·simp [ho,hb,hlt',hlt2,ht,Tok.enc,hk]
  ·have hlt' : (l.length : Int) ≤ (s.at_ : Int):=by omega
   have hn : l[s.at_]? = none:=List.getElem?_eq_none (by omega)
   simp [ho,hb,hlt',hlt,hn]
end Go.Proofs.YtfiohepfohhibaaDoor
namespace Go.Proofs.YtfiohepfohhibaaDoor
open Go.RowKit
attribute [local simp] List.replicate List.range List.range.loop resA resOne retA
theorem nameRW {l : List Tok} (s : RS) : RdC 23 [] l s (takeP l s 2) (Sg (takeT l s 2)):=fun S d i h=>by
 refine ADet.intro mixed Tryd.call23 Tryd.func23 rfl ?_
 simp [Tryd.ntmps23]
 refine ⟨_,_,takeW s 2 _ _ _ (h.push _),?_⟩
 simp
theorem namedW {l : List Tok} (s : RS) : RdC 18 [] l s (takeP l s 3) (Sg (takeT l s 3)):=fun S d i h=>by
 refine ADet.intro mixed Tryd.call18 Tryd.func18 rfl ?_
 simp [Tryd.ntmps18]
 refine ⟨_,_,takeW s 3 _ _ _ (h.push _),?_⟩
 simp
theorem fewW {l : List Tok} (s : RS) (n : Nat) : RdC 42 [I n,I 6] l s (fewP s n) .un:=fun S d i h=>by
 have ho:=h.o
 refine ADet.intro mixed Tryd.call42 Tryd.func42 rfl ?_
 simp [Tryd.ntmps42]
 unfold fewP
 by_cases h6 : 6 < n
 ·have h6' : (6 : Int) < (n : Int):=by omega
  cases hf : s.full <;> simp [ho,hf,h6,h6']
 ·have h6' : ¬ (6 : Int) < (n : Int):=by omega
  cases hf : s.full <;> simp [ho,hf,h6,h6']
def mapK (l : List (ByteArray × Int)) : AObj:=.map (l.map fun x=>(.string x.1,U x.2))
theorem find_mapK (s : ByteArray) : ∀ (l : List (ByteArray × Int)) (i : Nat),∃ j,mapFind .string (.string s) (l.map fun x=>(.string x.1,U x.2)) i = some ((findK s l).map fun k=>(j,U k))
 | [],i=>⟨0,rfl⟩
 | (t,k) :: l,i=>by
  rw [List.map_cons,mapFind_str,findK]
  cases sEq s t with
  | true=>exact ⟨i,rfl⟩
  | false=>exact find_mapK s l (i + 1)
theorem pwordsC (L : List AObj) (S : ASt) : ADet Tryd.prog 43 [] (L :: S) (.mp 0 L.length) ((L ++ [mapK wordK]) :: S):=by
 refine ADet.flat mixed Tryd.call43 Tryd.func43 rfl ?_
 simp [Tryd.ntmps43,mapFind_nil,mapFind_str,mapK,wordK,sEq_ne]
theorem pwrapsC (L : List AObj) (S : ASt) : ADet Tryd.prog 44 [] (L :: S) (.mp 0 L.length) ((L ++ [mapK wrapK]) :: S):=by
 refine ADet.flat mixed Tryd.call44 Tryd.func44 rfl ?_
 simp [Tryd.ntmps44,mapFind_nil,mapFind_str,mapK,wrapK,sEq_ne]
abbrev tyA (t : Ty) : AV:=.agg [U t.kind,Sg t.name,.p (.sl 3 (t.args.map Ty.enc))]
theorem RdC.less {F : Nat} {args : List AV} {l : List Tok} {s s' : RS} {r r' : AV} (hle : LeA r r') (h : RdC F args l s s' r) : RdC F args l s s' r':=fun S d i hR=>ADet.less hle (h S d i hR)
theorem handP_false {l : List Tok} {s : RS} {k : Int} (h : handP l s k = false) : s.bad = true ∨ (s.bad = false ∧ ¬ (s.at_ : Int) < (l.length : Int)) ∨ (s.bad = false ∧ (s.at_ : Int) < (l.length : Int) ∧ ∃ x,l[s.at_]? = some x ∧ ¬ x.kind = k):=by
 unfold handP at h
 cases hb : s.bad with
 | true=>exact .inl rfl
 | false =>
  cases hx : l[s.at_]? with
  | none =>
   have:=List.getElem?_eq_none_iff.1 hx
   exact .inr (.inl ⟨rfl,by omega⟩)
  | some x =>
   have:=(List.getElem?_eq_some_iff.1 hx).1
   rw [hb,hx] at h
   exact .inr (.inr ⟨rfl,by omega,x,rfl,by simpa using h⟩)
theorem handP_true {l : List Tok} {s : RS} {k : Int} (h : handP l s k = true) : s.bad = false ∧ (s.at_ : Int) < (l.length : Int) ∧ ∃ x,l[s.at_]? = some x ∧ x.kind = k:=by
 unfold handP at h
 simp only [Bool.and_eq_true,Bool.not_eq_true'] at h
 cases hx : l[s.at_]? with
 | none=>rw [hx] at h; simp at h
 | some x =>
  have:=(List.getElem?_eq_some_iff.1 hx).1
  rw [hx] at h
  exact ⟨h.1,by omega,x,rfl,by simpa using h.2⟩
theorem takeP_le {l : List Tok} {s : RS} (k : Int) (h : s.at_ ≤ l.length) : (takeP l s k).at_ ≤ l.length:=by
 unfold takeP
 split
 ·rename_i hh
  obtain ⟨_,hlt,_⟩:=handP_true hh
  show s.at_ + 1 ≤ _; omega
 ·exact h
theorem kindP_le : ∀ (n : Nat) (l : List Tok) (s : RS) (t : Ty) (s' : RS),s.at_ ≤ l.length → kindP l n s = some (t,s') → s'.at_ ≤ l.length
 | 0,l,s,t,s',_,h=>by simp [kindP] at h
 | n + 1,l,s,t,s',hs,h=>by
  unfold kindP at h
  split at h
  ·obtain ⟨⟨t1,s1⟩,hk,he⟩:=Option.map_eq_some_iff.1 h
   cases he
   exact kindP_le n l _ t1 _ (mayP_le _ (mayP_le _ hs)) hk
  split at h
  ·cases h; exact takeP_le 3 hs
  split at h
  ·cases h; exact takeP_le 1 hs
  split at h
  ·cases h; exact hs
  ·obtain ⟨⟨t1,s1⟩,hk,he⟩:=Option.map_eq_some_iff.1 h
   cases he
   exact mustP_le _ _ (kindP_le n l _ t1 _ (mustP_le _ _ (takeP_le 1 hs)) hk)
end Go.Proofs.YtfiohepfohhibaaDoor
namespace Go.Proofs.YtfiohepfohhibaaDoor
open Go.RowKit
attribute [local simp] List.replicate List.range List.range.loop resA resOne retA virtL virtO virt_get markL markO markR_get rowA awpI_nil awpI_cons List.forall_mem_cons List.contains_cons List.contains_nil List.find? nextD_eq awpD_nil awpD_cons LCp LCl refL
theorem kind_word1 {l : List Tok} {s : RS} {k : Int} (hs : s.at_ ≤ l.length) (h1 : isP l s (⟨#[38]⟩ : ByteArray) 0 = false) (hf : findK (takeT l s 1) wordK = some k) (hb : s.bad = true) : RdC 24 [] l s (takeP l s 1) (.agg [U k,Sg emS,nilS]):=by
 have hm : mayP l s (⟨#[38]⟩ : ByteArray) = s:=by unfold mayP; rw [h1]; rfl
 have htl:=takeP_le (s:=s) 1 hs
 obtain ⟨j,hj⟩:=find_mapK (takeT l s 1) wordK 0
 rw [hf,Option.map_some] at hj
 refine RdC.intro fun S d i hR=>?_
 have ho:=(hR.upd s hs).o
 have hot:=(hR.upd _ htl).o
 have hle:=hs
 have hn:=hR.n
 refine ADet.intro mixed Tryd.call24 Tryd.func24 rfl ?_
 simp [Tryd.ntmps24]
 refine ⟨_,_,(mayW s (⟨#[38]⟩ : ByteArray)).at hR hs _,?_⟩
 rw [h1,hm]
 simp [ho]
 refine awp_draw [] (by kernel_rfl) (by kernel_rfl) ?_
 simp [ho,hb]
 refine ⟨_,_,(takeW s 1).at hR hs _,?_⟩
 simp
 refine ⟨_,_,pwordsC _ _,?_⟩
 simp [mapK,hj]
theorem kind_word2 {l : List Tok} {s : RS} {k : Int} (hs : s.at_ ≤ l.length) (h1 : isP l s (⟨#[38]⟩ : ByteArray) 0 = false) (hf : findK (takeT l s 1) wordK = some k) (hb : s.bad = false) (hlt : ¬ (s.at_ : Int) < (l.length : Int)) : RdC 24 [] l s (takeP l s 1) (.agg [U k,Sg emS,nilS]):=by
 have hm : mayP l s (⟨#[38]⟩ : ByteArray) = s:=by unfold mayP; rw [h1]; rfl
 have htl:=takeP_le (s:=s) 1 hs
 obtain ⟨j,hj⟩:=find_mapK (takeT l s 1) wordK 0
 rw [hf,Option.map_some] at hj
 refine RdC.intro fun S d i hR=>?_
 have ho:=(hR.upd s hs).o
 have hot:=(hR.upd _ htl).o
 have hle:=hs
 have hn:=hR.n
 refine ADet.intro mixed Tryd.call24 Tryd.func24 rfl ?_
 simp [Tryd.ntmps24]
 refine ⟨_,_,(mayW s (⟨#[38]⟩ : ByteArray)).at hR hs _,?_⟩
 rw [h1,hm]
 simp [ho]
 refine awp_draw [] (by kernel_rfl) (by kernel_rfl) ?_
 simp [ho,hb,hlt]
 refine ⟨_,_,(takeW s 1).at hR hs _,?_⟩
 simp
 refine ⟨_,_,pwordsC _ _,?_⟩
 simp [mapK,hj]
theorem kind_word3 {l : List Tok} {s : RS} {k : Int} (hs : s.at_ ≤ l.length) (h1 : isP l s (⟨#[38]⟩ : ByteArray) 0 = false) (hf : findK (takeT l s 1) wordK = some k) (hb : s.bad = false) (hlt : (s.at_ : Int) < (l.length : Int)) {x : Tok} (hx : l[s.at_]? = some x) (hk : ¬ x.kind = 3) : RdC 24 [] l s (takeP l s 1) (.agg [U k,Sg emS,nilS]):=by
 have hm : mayP l s (⟨#[38]⟩ : ByteArray) = s:=by unfold mayP; rw [h1]; rfl
 have htl:=takeP_le (s:=s) 1 hs
 obtain ⟨j,hj⟩:=find_mapK (takeT l s 1) wordK 0
 rw [hf,Option.map_some] at hj
 refine RdC.intro fun S d i hR=>?_
 have ho:=(hR.upd s hs).o
 have hot:=(hR.upd _ htl).o
 have hle:=hs
 have hn:=hR.n
 refine ADet.intro mixed Tryd.call24 Tryd.func24 rfl ?_
 simp [Tryd.ntmps24]
 refine ⟨_,_,(mayW s (⟨#[38]⟩ : ByteArray)).at hR hs _,?_⟩
 rw [h1,hm]
 simp [ho]
 refine awp_draw [] (by kernel_rfl) (by kernel_rfl) ?_
 simp [ho,hb,hlt,hx,hk,Tok.enc]
 refine ⟨_,_,(takeW s 1).at hR hs _,?_⟩
 simp
 refine ⟨_,_,pwordsC _ _,?_⟩
 simp [mapK,hj]
theorem kind_none1 {l : List Tok} {s : RS} (hs : s.at_ ≤ l.length) (h1 : isP l s (⟨#[38]⟩ : ByteArray) 0 = false) (hf : findK (takeT l s 1) wordK = none) (hg : findK (takeT l s 1) wrapK = none) (hb : s.bad = true) : RdC 24 [] l s ⟨s.at_,true,s.full⟩ (.agg [U 0,Sg emS,nilS]):=by
 have hm : mayP l s (⟨#[38]⟩ : ByteArray) = s:=by unfold mayP; rw [h1]; rfl
 have htl:=takeP_le (s:=s) 1 hs
 obtain ⟨j,hj⟩:=find_mapK (takeT l s 1) wordK 0
 rw [hf,Option.map_none] at hj
 obtain ⟨j2,hj2⟩:=find_mapK (takeT l s 1) wrapK 0
 rw [hg,Option.map_none] at hj2
 have hfu : (takeP l s 1).full = s.full:=by unfold takeP; split <;> rfl
 refine RdC.intro fun S d i hR=>?_
 have ho:=(hR.upd s hs).o
 have hot:=(hR.upd _ htl).o
 have hle:=hs
 have hn:=hR.n
 refine ADet.intro mixed Tryd.call24 Tryd.func24 rfl ?_
 simp [Tryd.ntmps24]
 refine ⟨_,_,(mayW s (⟨#[38]⟩ : ByteArray)).at hR hs _,?_⟩
 rw [h1,hm]
 simp [ho]
 refine awp_draw [] (by kernel_rfl) (by kernel_rfl) ?_
 simp [ho,hb]
 refine ⟨_,_,(takeW s 1).at hR hs _,?_⟩
 simp
 refine ⟨_,_,pwordsC _ _,?_⟩
 simp [mapK,hj]
 refine ⟨_,_,pwrapsC _ _,?_⟩
 have hRo:=hR.o
 simp [mapK,hj2,hot,hfu,hRo]
theorem kind_none2 {l : List Tok} {s : RS} (hs : s.at_ ≤ l.length) (h1 : isP l s (⟨#[38]⟩ : ByteArray) 0 = false) (hf : findK (takeT l s 1) wordK = none) (hg : findK (takeT l s 1) wrapK = none) (hb : s.bad = false) (hlt : ¬ (s.at_ : Int) < (l.length : Int)) : RdC 24 [] l s ⟨s.at_,true,s.full⟩ (.agg [U 0,Sg emS,nilS]):=by
 have hm : mayP l s (⟨#[38]⟩ : ByteArray) = s:=by unfold mayP; rw [h1]; rfl
 have htl:=takeP_le (s:=s) 1 hs
 obtain ⟨j,hj⟩:=find_mapK (takeT l s 1) wordK 0
 rw [hf,Option.map_none] at hj
 obtain ⟨j2,hj2⟩:=find_mapK (takeT l s 1) wrapK 0
 rw [hg,Option.map_none] at hj2
 have hfu : (takeP l s 1).full = s.full:=by unfold takeP; split <;> rfl
 refine RdC.intro fun S d i hR=>?_
 have ho:=(hR.upd s hs).o
 have hot:=(hR.upd _ htl).o
 have hle:=hs
 have hn:=hR.n
 refine ADet.intro mixed Tryd.call24 Tryd.func24 rfl ?_
 simp [Tryd.ntmps24]
 refine ⟨_,_,(mayW s (⟨#[38]⟩ : ByteArray)).at hR hs _,?_⟩
 rw [h1,hm]
 simp [ho]
 refine awp_draw [] (by kernel_rfl) (by kernel_rfl) ?_
 simp [ho,hb,hlt]
 refine ⟨_,_,(takeW s 1).at hR hs _,?_⟩
 simp
 refine ⟨_,_,pwordsC _ _,?_⟩
 simp [mapK,hj]
 refine ⟨_,_,pwrapsC _ _,?_⟩
 have hRo:=hR.o
 simp [mapK,hj2,hot,hfu,hRo]
theorem kind_none3 {l : List Tok} {s : RS} (hs : s.at_ ≤ l.length) (h1 : isP l s (⟨#[38]⟩ : ByteArray) 0 = false) (hf : findK (takeT l s 1) wordK = none) (hg : findK (takeT l s 1) wrapK = none) (hb : s.bad = false) (hlt : (s.at_ : Int) < (l.length : Int)) {x : Tok} (hx : l[s.at_]? = some x) (hk : ¬ x.kind = 3) : RdC 24 [] l s ⟨s.at_,true,s.full⟩ (.agg [U 0,Sg emS,nilS]):=by
 have hm : mayP l s (⟨#[38]⟩ : ByteArray) = s:=by unfold mayP; rw [h1]; rfl
 have htl:=takeP_le (s:=s) 1 hs
 obtain ⟨j,hj⟩:=find_mapK (takeT l s 1) wordK 0
 rw [hf,Option.map_none] at hj
 obtain ⟨j2,hj2⟩:=find_mapK (takeT l s 1) wrapK 0
 rw [hg,Option.map_none] at hj2
 have hfu : (takeP l s 1).full = s.full:=by unfold takeP; split <;> rfl
 refine RdC.intro fun S d i hR=>?_
 have ho:=(hR.upd s hs).o
 have hot:=(hR.upd _ htl).o
 have hle:=hs
 have hn:=hR.n
 refine ADet.intro mixed Tryd.call24 Tryd.func24 rfl ?_
 simp [Tryd.ntmps24]
 refine ⟨_,_,(mayW s (⟨#[38]⟩ : ByteArray)).at hR hs _,?_⟩
 rw [h1,hm]
 simp [ho]
 refine awp_draw [] (by kernel_rfl) (by kernel_rfl) ?_
 simp [ho,hb,hlt,hx,hk,Tok.enc]
 refine ⟨_,_,(takeW s 1).at hR hs _,?_⟩
 simp
 refine ⟨_,_,pwordsC _ _,?_⟩
 simp [mapK,hj]
 refine ⟨_,_,pwrapsC _ _,?_⟩
 have hRo:=hR.o
 simp [mapK,hj2,hot,hfu,hRo]
theorem kind_wrap1 {l : List Tok} {s : RS} {k : Int} {t1 : Ty} {s1 : RS} (hs : s.at_ ≤ l.length) (h1 : isP l s (⟨#[38]⟩ : ByteArray) 0 = false) (hf : findK (takeT l s 1) wordK = none) (hg : findK (takeT l s 1) wrapK = some k) (hm2 : s1.at_ ≤ l.length) (ih : RdC 24 [] l (mustP l (takeP l s 1) [(⟨#[60]⟩ : ByteArray)]) s1 (tyA t1)) (hb : s.bad = true) : RdC 24 [] l s (mustP l s1 [(⟨#[62]⟩ : ByteArray)]) (tyA (.mk k emS [t1])):=by
 have hm : mayP l s (⟨#[38]⟩ : ByteArray) = s:=by unfold mayP; rw [h1]; rfl
 have htl:=takeP_le (s:=s) 1 hs
 obtain ⟨j,hj⟩:=find_mapK (takeT l s 1) wordK 0
 rw [hf,Option.map_none] at hj
 obtain ⟨j2,hj2⟩:=find_mapK (takeT l s 1) wrapK 0
 rw [hg,Option.map_some] at hj2
 have hm1:=mustP_le [(⟨#[60]⟩ : ByteArray)] _ htl
 refine RdC.intro fun S d i hR=>?_
 have ho:=(hR.upd s hs).o
 have hot:=(hR.upd _ htl).o
 have hle:=hs
 have hn:=hR.n
 refine ADet.intro mixed Tryd.call24 Tryd.func24 rfl ?_
 simp [Tryd.ntmps24]
 refine ⟨_,_,(mayW s (⟨#[38]⟩ : ByteArray)).at hR hs _,?_⟩
 rw [h1,hm]
 simp [ho]
 refine awp_draw [] (by kernel_rfl) (by kernel_rfl) ?_
 simp [ho,hb]
 refine ⟨_,_,(takeW s 1).at hR hs _,?_⟩
 simp
 refine ⟨_,_,pwordsC _ _,?_⟩
 simp [mapK,hj]
 refine ⟨_,_,pwrapsC _ _,?_⟩
 simp [mapK,hj2]
 refine ⟨_,_,ADet.sub (.cons (.refl _) (.cons (.osl (.refl _)) (.refl _))) ((mustW (takeP l s 1) [(⟨#[60]⟩ : ByteArray)] (by simp) htl).at hR htl _),?_⟩
 simp
 refine ⟨_,_,ih.at hR hm1 _,?_⟩
 simp
 refine ⟨_,_,ADet.sub (.cons (.refl _) (.cons (.osl (.refl _)) (.refl _))) ((mustW s1 [(⟨#[62]⟩ : ByteArray)] (by simp) hm2).at hR hm2 _),?_⟩
 simp
 exact ⟨rfl,rfl,by simp [Ty.args,tyEnc]⟩
theorem kind_wrap2 {l : List Tok} {s : RS} {k : Int} {t1 : Ty} {s1 : RS} (hs : s.at_ ≤ l.length) (h1 : isP l s (⟨#[38]⟩ : ByteArray) 0 = false) (hf : findK (takeT l s 1) wordK = none) (hg : findK (takeT l s 1) wrapK = some k) (hm2 : s1.at_ ≤ l.length) (ih : RdC 24 [] l (mustP l (takeP l s 1) [(⟨#[60]⟩ : ByteArray)]) s1 (tyA t1)) (hb : s.bad = false) (hlt : ¬ (s.at_ : Int) < (l.length : Int)) : RdC 24 [] l s (mustP l s1 [(⟨#[62]⟩ : ByteArray)]) (tyA (.mk k emS [t1])):=by
 have hm : mayP l s (⟨#[38]⟩ : ByteArray) = s:=by unfold mayP; rw [h1]; rfl
 have htl:=takeP_le (s:=s) 1 hs
 obtain ⟨j,hj⟩:=find_mapK (takeT l s 1) wordK 0
 rw [hf,Option.map_none] at hj
 obtain ⟨j2,hj2⟩:=find_mapK (takeT l s 1) wrapK 0
 rw [hg,Option.map_some] at hj2
 have hm1:=mustP_le [(⟨#[60]⟩ : ByteArray)] _ htl
 refine RdC.intro fun S d i hR=>?_
 have ho:=(hR.upd s hs).o
 have hot:=(hR.upd _ htl).o
 have hle:=hs
 have hn:=hR.n
 refine ADet.intro mixed Tryd.call24 Tryd.func24 rfl ?_
 simp [Tryd.ntmps24]
 refine ⟨_,_,(mayW s (⟨#[38]⟩ : ByteArray)).at hR hs _,?_⟩
 rw [h1,hm]
 simp [ho]
 refine awp_draw [] (by kernel_rfl) (by kernel_rfl) ?_
 simp [ho,hb,hlt]
 refine ⟨_,_,(takeW s 1).at hR hs _,?_⟩
 simp
 refine ⟨_,_,pwordsC _ _,?_⟩
 simp [mapK,hj]
 refine ⟨_,_,pwrapsC _ _,?_⟩
 simp [mapK,hj2]
 refine ⟨_,_,ADet.sub (.cons (.refl _) (.cons (.osl (.refl _)) (.refl _))) ((mustW (takeP l s 1) [(⟨#[60]⟩ : ByteArray)] (by simp) htl).at hR htl _),?_⟩
 simp
 refine ⟨_,_,ih.at hR hm1 _,?_⟩
 simp
 refine ⟨_,_,ADet.sub (.cons (.refl _) (.cons (.osl (.refl _)) (.refl _))) ((mustW s1 [(⟨#[62]⟩ : ByteArray)] (by simp) hm2).at hR hm2 _),?_⟩
 simp
 exact ⟨rfl,rfl,by simp [Ty.args,tyEnc]⟩
theorem kind_wrap3 {l : List Tok} {s : RS} {k : Int} {t1 : Ty} {s1 : RS} (hs : s.at_ ≤ l.length) (h1 : isP l s (⟨#[38]⟩ : ByteArray) 0 = false) (hf : findK (takeT l s 1) wordK = none) (hg : findK (takeT l s 1) wrapK = some k) (hm2 : s1.at_ ≤ l.length) (ih : RdC 24 [] l (mustP l (takeP l s 1) [(⟨#[60]⟩ : ByteArray)]) s1 (tyA t1)) (hb : s.bad = false) (hlt : (s.at_ : Int) < (l.length : Int)) {x : Tok} (hx : l[s.at_]? = some x) (hk : ¬ x.kind = 3) : RdC 24 [] l s (mustP l s1 [(⟨#[62]⟩ : ByteArray)]) (tyA (.mk k emS [t1])):=by
 have hm : mayP l s (⟨#[38]⟩ : ByteArray) = s:=by unfold mayP; rw [h1]; rfl
 have htl:=takeP_le (s:=s) 1 hs
 obtain ⟨j,hj⟩:=find_mapK (takeT l s 1) wordK 0
 rw [hf,Option.map_none] at hj
 obtain ⟨j2,hj2⟩:=find_mapK (takeT l s 1) wrapK 0
 rw [hg,Option.map_some] at hj2
 have hm1:=mustP_le [(⟨#[60]⟩ : ByteArray)] _ htl
 refine RdC.intro fun S d i hR=>?_
 have ho:=(hR.upd s hs).o
 have hot:=(hR.upd _ htl).o
 have hle:=hs
 have hn:=hR.n
 refine ADet.intro mixed Tryd.call24 Tryd.func24 rfl ?_
 simp [Tryd.ntmps24]
 refine ⟨_,_,(mayW s (⟨#[38]⟩ : ByteArray)).at hR hs _,?_⟩
 rw [h1,hm]
 simp [ho]
 refine awp_draw [] (by kernel_rfl) (by kernel_rfl) ?_
 simp [ho,hb,hlt,hx,hk,Tok.enc]
 refine ⟨_,_,(takeW s 1).at hR hs _,?_⟩
 simp
 refine ⟨_,_,pwordsC _ _,?_⟩
 simp [mapK,hj]
 refine ⟨_,_,pwrapsC _ _,?_⟩
 simp [mapK,hj2]
 refine ⟨_,_,ADet.sub (.cons (.refl _) (.cons (.osl (.refl _)) (.refl _))) ((mustW (takeP l s 1) [(⟨#[60]⟩ : ByteArray)] (by simp) htl).at hR htl _),?_⟩
 simp
 refine ⟨_,_,ih.at hR hm1 _,?_⟩
 simp
 refine ⟨_,_,ADet.sub (.cons (.refl _) (.cons (.osl (.refl _)) (.refl _))) ((mustW s1 [(⟨#[62]⟩ : ByteArray)] (by simp) hm2).at hR hm2 _),?_⟩
 simp
 exact ⟨rfl,rfl,by simp [Ty.args,tyEnc]⟩
theorem kindRC : ∀ (n : Nat) (l : List Tok) (s : RS) (t : Ty) (s' : RS),s.at_ ≤ l.length → kindP l n s = some (t,s') → RdC 24 [] l s s' (tyA t)
 | 0,l,s,t,s',_,h=>by simp [kindP] at h
 | n + 1,l,s,t,s',hs,h=>by
  unfold kindP at h
  cases h1 : isP l s (⟨#[38]⟩ : ByteArray) 0 with
  | true =>
   rw [h1,if_pos rfl] at h
   dsimp only at h
   obtain ⟨⟨t1,s1⟩,hk,he⟩:=Option.map_eq_some_iff.1 h
   have hm1:=mayP_le (s:=s) (⟨#[38]⟩ : ByteArray) hs
   have hm2:=mayP_le (s:=mayP l s (⟨#[38]⟩ : ByteArray)) (⟨#[109,117,116]⟩ : ByteArray) hm1
   have ih:=kindRC n l _ t1 s1 hm2 hk
   refine RdC.intro fun S d i hR=>?_
   refine ADet.intro mixed Tryd.call24 Tryd.func24 rfl ?_
   simp [Tryd.ntmps24]
   refine ⟨_,_,(mayW s (⟨#[38]⟩ : ByteArray)).at hR hs _,?_⟩
   rw [h1]
   simp
   refine ⟨_,_,(mayW _ (⟨#[109,117,116]⟩ : ByteArray)).at hR hm1 _,?_⟩
   cases h2 : isP l (mayP l s (⟨#[38]⟩ : ByteArray)) (⟨#[109,117,116]⟩ : ByteArray) 0 with
   | true =>
    rw [h2] at he
    cases he
    simp
    refine ⟨_,_,ih.at hR hm2 _,?_⟩
    simp
    exact ⟨rfl,rfl,by simp [Ty.args,tyEnc]⟩
   | false =>
    rw [h2] at he
    cases he
    simp
    refine ⟨_,_,ih.at hR hm2 _,?_⟩
    simp
    exact ⟨rfl,rfl,by simp [Ty.args,tyEnc]⟩
  | false =>
  rw [h1,if_neg (by simp)] at h
  cases hh : handP l s 3 with
  | true =>
   rw [hh,if_pos rfl] at h
   cases h
   obtain ⟨hb,hlt,x,hx,hk⟩:=handP_true hh
   refine RdC.less (r:=.agg [U 4,Sg (takeT l s 3),nilS]) (by repeat' constructor) (RdC.intro fun S d i hR=>?_)
   have hm : mayP l s (⟨#[38]⟩ : ByteArray) = s:=by unfold mayP; rw [h1]; rfl
   have ho:=(hR.upd s hs).o
   refine ADet.intro mixed Tryd.call24 Tryd.func24 rfl ?_
   simp [Tryd.ntmps24]
   refine ⟨_,_,(mayW s (⟨#[38]⟩ : ByteArray)).at hR hs _,?_⟩
   rw [h1,hm]
   simp [ho]
   refine awp_draw [] (by kernel_rfl) (by kernel_rfl) ?_
   simp [ho,hb,hlt,hx,hk,Tok.enc]
   refine ⟨_,_,(namedW s).at hR hs _,?_⟩
   simp
  | false =>
  rw [hh,if_neg (by simp)] at h
  have htl:=takeP_le (s:=s) 1 hs
  cases hf : findK (takeT l s 1) wordK with
  | some k =>
   rw [hf] at h
   cases h
   refine RdC.less (r:=.agg [U k,Sg emS,nilS]) (by repeat' constructor) ?_
   rcases handP_false hh with hb | ⟨hb,hlt⟩ | ⟨hb,hlt,x,hx,hk⟩
   ·exact kind_word1 hs h1 hf hb
   ·exact kind_word2 hs h1 hf hb hlt
   ·exact kind_word3 hs h1 hf hb hlt hx hk
  | none =>
  rw [hf] at h
  dsimp only at h
  cases hg : findK (takeT l s 1) wrapK with
  | none =>
   rw [hg] at h
   cases h
   refine RdC.less (r:=.agg [U 0,Sg emS,nilS]) (by repeat' constructor) ?_
   rcases handP_false hh with hb | ⟨hb,hlt⟩ | ⟨hb,hlt,x,hx,hk⟩
   ·exact kind_none1 hs h1 hf hg hb
   ·exact kind_none2 hs h1 hf hg hb hlt
   ·exact kind_none3 hs h1 hf hg hb hlt hx hk
  | some k =>
   rw [hg] at h
   dsimp only at h
   obtain ⟨⟨t1,s1⟩,hk,he⟩:=Option.map_eq_some_iff.1 h
   cases he
   have hm1:=mustP_le [(⟨#[60]⟩ : ByteArray)] _ htl
   have hm2:=kindP_le n l _ t1 s1 hm1 hk
   have ih:=kindRC n l _ t1 s1 hm1 hk
   rcases handP_false hh with hb | ⟨hb,hlt⟩ | ⟨hb,hlt,x,hx,hk⟩
   ·exact kind_wrap1 hs h1 hf hg hm2 ih hb
   ·exact kind_wrap2 hs h1 hf hg hm2 ih hb hlt
   ·exact kind_wrap3 hs h1 hf hg hm2 ih hb hlt hx hk
end Go.Proofs.YtfiohepfohhibaaDoor
