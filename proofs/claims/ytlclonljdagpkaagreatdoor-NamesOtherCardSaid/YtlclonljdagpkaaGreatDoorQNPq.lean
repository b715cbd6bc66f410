/- A part of the proof. The statement is proved in the claim's last text. -/
import Derived.Test.YtlclonljdagpkaaGreatDoorQNPp
import Derived.Test.YtlclonljdagpkaaGreatDoorQMLt
import Derived.Test.YtlclonljdagpkaaGreatDoorQMLx
import Derived.Laws.ResultCell
set_option linter.unusedVariables false
set_option linter.unusedSimpArgs false
set_option maxRecDepth 100000
set_option maxHeartbeats 32000000
namespace Go.Proofs.YtlclonljdagpkaaGreatDoor
open Go.RowKit
attribute [local simp] List.replicate List.range List.range.loop resA zR retA zAi zAZ zY zAj zAb zQ rowA zf zT List.forall_mem_cons List.contains_cons List.contains_nil List.find? ze zd zS LCp LCl refL
abbrev rdO (l : List Tok) (s : RS) : AObj:=.cells [.p (.sl 3 (l.map Tok.enc)),I s.at_,B s.bad,B s.full] 82
structure RAt (S : ASt) (d i : Nat) (l : List Tok) (s : RS) : Prop where
 o : get2 S d i = some (rdO l s)
 le : s.at_ <= l.length
 n : l.length <= 1500
theorem RAt.push {S : ASt} {d i : Nat} {l : List Tok} {s : RS} (h : RAt S d i l s) (L : List AObj) : RAt (L :: S) (d + 1) i l s:=⟨h.o,h.le,h.n⟩
theorem RAt.upd {S : ASt} {d i : Nat} {l : List Tok} {s : RS} (h : RAt S d i l s) (s' : RS) (hl : s'.at_ <= l.length) : RAt (set2 S d i (rdO l s')) d i l s':=⟨by rw [z8,h.o]; rfl,hl,h.n⟩
theorem RAt.same {S : ASt} {d i : Nat} {l : List Tok} {s : RS} (h : RAt S d i l s) : set2 S d i (rdO l s) = S:=zGa h.o
theorem zBk {a b : Nat} (h : a + b <= maxLen) : IntKind.i64.wrap ((a : Int) + (b : Int)) = ((a + b : Nat) : Int):=by
 unfold maxLen at h;rw [IntWalk.i64_in _ (by omega)]; omega
theorem rAtC {S : ASt} {d i : Nat} {l : List Tok} {s : RS} (h : RAt S d i l s) : ADet Tryz.prog 81 [.ptr d i 0] S (I (zAh l s)) S:=by
 have ho:=h.o
 have hle:=h.le
 refine ADet.intro mixed Tryz.call81 Tryz.func81 rfl ?_;simp [Tryz.ntmps81];refine zA [] (by kernel_rfl) (by kernel_rfl) ?_
 unfold zAh
 by_cases hlt : s.at_ < l.length
 .have hlt' : (s.at_ : Int) < (l.length : Int):=by omega
  obtain ⟨t,ht⟩ : ∃ t,l[s.at_]? = some t:=⟨_,List.getElem?_eq_getElem hlt⟩
  simp [ho,hlt',hlt];refine zA [] (by kernel_rfl) (by kernel_rfl) ?_
  simp [ho,hlt',hlt,ht,Tok.enc]
 .have hlt' : ¬ (s.at_ : Int) < (l.length : Int):=by omega
  have hn : l[s.at_]? = none:=List.getElem?_eq_none (by omega)
  simp [ho,hlt',hlt,hn]
theorem isC {S : ASt} {d i : Nat} {l : List Tok} {s : RS} (h : RAt S d i l s) (t : ByteArray) (k : Nat) (hk : k <= 1) : ADet Tryz.prog 155 [.ptr d i 0,Sg t,I k] S (B (isP l s t k)) S:=by
 have ho:=h.o
 have hle:=h.le
 have hn:=h.n
 have hw : IntKind.i64.wrap ((s.at_ : Int) + (k : Int)) = ((s.at_ + k : Nat) : Int):=zBk (by unfold maxLen; omega)
 obtain ⟨Q,hQ⟩ : ∃ Q,Q = s.at_ + k:=⟨_,rfl⟩
 rw [<- hQ] at hw;refine ADet.intro mixed Tryz.call155 Tryz.func155 rfl ?_;simp [Tryz.ntmps155];refine zA [] (by kernel_rfl) (by kernel_rfl) ?_
 unfold isP;rw [<- hQ]
 cases hb : s.bad with
 | true=>simp [ho,hb]
 | false =>
  by_cases hlt : Q < l.length
  .have hlt' : (Q : Int) < (l.length : Int):=by omega
   obtain ⟨x,ht⟩ : ∃ t,l[Q]? = some t:=⟨_,List.getElem?_eq_getElem hlt⟩
   simp [ho,hb,hw,hlt',hlt,ht,Tok.enc]
  .have hlt' : ¬ (Q : Int) < (l.length : Int):=by omega
   have hn : l[Q]? = none:=List.getElem?_eq_none (by omega)
   simp [ho,hb,hw,hlt',hlt,hn]
theorem zYI {l : List Tok} {s : RS} {t : ByteArray} {k : Nat} (h : isP l s t k = true) : s.at_ + k < l.length:=by
 unfold isP at h
 rcases Nat.lt_or_ge (s.at_ + k) l.length with hl | hl
 .exact hl
 .rw [List.getElem?_eq_none hl] at h; simp at h
theorem za {l : List Tok} {s : RS} (t : ByteArray) (h : s.at_ <= l.length) : (mayP l s t).at_ <= l.length:=by
 unfold mayP;split
 .rename_i hi; have:=zYI hi; show s.at_ + 1 <= _; omega
 .exact h
theorem mayC {S : ASt} {d i : Nat} {l : List Tok} {s : RS} (h : RAt S d i l s) (t : ByteArray) : ADet Tryz.prog 82 [.ptr d i 0,Sg t] S (B (isP l s t 0)) (set2 S d i (rdO l (mayP l s t))):=by
 have ho:=h.o
 have hle:=h.le
 have hn:=h.n
 have hw : IntKind.i64.wrap ((s.at_ : Int) + 1) = ((s.at_ + 1 : Nat) : Int):=zBk (b:=1) (by unfold maxLen; omega)
 refine ADet.intro mixed Tryz.call82 Tryz.func82 rfl ?_;simp [Tryz.ntmps82];refine ⟨_,_,isC (h.push _) t 0 (by omega),?_⟩
 unfold mayP
 cases hi : isP l s t 0 with
 | true =>
  simp [ho,hw]
  rfl
 | false =>
  have:=h.same
  simp [ho];exact this.symm
end Go.Proofs.YtlclonljdagpkaaGreatDoor
namespace Go.Proofs.YtlclonljdagpkaaGreatDoor
open Go.RowKit
attribute [local simp] List.replicate List.range List.range.loop resA zR retA AV.cuts AV.cut AObj.cut trim wkR wkT wkL wkN wkNR wkNL wkM wkMR wkML zAi zAZ zY zAj zAb zQ rowA zf zT List.forall_mem_cons List.contains_cons List.contains_nil List.find? ze zd zS LCp LCl refL
def RdC (F : Nat) (args : List AV) (l : List Tok) (s s' : RS) (r : AV) : Prop:=∀ (S : ASt) (d i : Nat),RAt S d i l s -> ADet Tryz.prog F (.ptr d i 0 :: args) S r (set2 S d i (rdO l s'))
theorem RdC.at {F : Nat} {args : List AV} {l : List Tok} {s s1 s2 : RS} {r : AV} (hw : RdC F args l s1 s2 r) {S : ASt} {d i : Nat} (h : RAt S d i l s) (h1 : s1.at_ <= l.length) (L : List AObj) :
  ADet Tryz.prog F (.ptr (d + 1) i 0 :: args) (L :: set2 S d i (rdO l s1)) r (L :: set2 S d i (rdO l s2)):=by
 have:=hw _ _ i ((h.upd s1 h1).push L)
 rw [zBe,zDb] at this;exact this
theorem RdC.intro {F : Nat} {args : List AV} {l : List Tok} {s s' : RS} {r : AV} (hw : ∀ (S : ASt) (d i : Nat),RAt S d i l s -> ADet Tryz.prog F (.ptr d i 0 :: args) (set2 S d i (rdO l s)) r (set2 S d i (rdO l s'))) : RdC F args l s s' r:=fun S d i h=>by
 have:=hw S d i h
 rw [h.same] at this;exact this
theorem mayW {l : List Tok} (s : RS) (t : ByteArray) : RdC 82 [Sg t] l s (mayP l s t) (B (isP l s t 0)):=fun S d i h=>mayC h t
theorem zH {l : List Tok} : ∀ (ts : List ByteArray) (s : RS),s.at_ <= l.length -> (zV l s ts).at_ <= l.length
 | [],s,h=>h
 | t :: ts,s,h=>zH ts _ (za t h)
theorem zB5 {l : List Tok} (s : RS) (ts : List ByteArray) (hts : ts.length <= 10) (hs : s.at_ <= l.length) : RdC 84 [.p (.sl 1 (ts.map fun t=>[pS t]))] l s (zV l s ts) .un:=RdC.intro fun S d i h=>by
 refine ADet.intro mixed Tryz.call84 Tryz.func84 rfl ?_;simp [Tryz.ntmps84];refine zE (fun a : Nat × RS=>a.1 <= ts.length /\ a.2.at_ <= l.length /\ zV l a.2 (ts.drop a.1) = zV l s ts) (fun a=>[.ptr (d + 1) i 0,.any,.any,.any,.any,.any,.p (.sl 1 (ts.map fun t=>[pS t])),I ts.length,I a.1,.any,.any,.any,.any,.any,.any,.any,.any,.any,.any,.any]) (fun a=>[] :: set2 S d i (rdO l a.2)) (fun a=>ts.length - a.1) (0,s) ⟨Nat.zero_le _,hs,rfl⟩ ?_ ?_ ?_
 .simp
 .simp
 rintro ⟨q,s1⟩ ⟨hq,h1,hm⟩
 simp only at hq h1 hm
 by_cases hlt : q < ts.length
 .have hlt' : (q : Int) < (ts.length : Int):=by omega
  obtain ⟨t,ht⟩ : ∃ t,ts[q]? = some t:=⟨_,List.getElem?_eq_getElem hlt⟩
  have hd : ts.drop q = t :: ts.drop (q + 1):=by
   rw [List.drop_eq_getElem_cons hlt]
   congr 1
   exact Option.some.inj ((List.getElem?_eq_getElem hlt).symm.trans ht)
  rw [hd] at hm
  have mC:=fun L=>(mayW s1 t).at h h1 L
  have ho:=(h.upd (mayP l s1 t) (za t h1)).o
  have hfin : set2 (set2 S d i (rdO l (mayP l s1 t))) d i (rdO l ⟨(mayP l s1 t).at_,!isP l s1 t 0,s1.full⟩) = set2 S d i (rdO l ⟨(mayP l s1 t).at_,!isP l s1 t 0,s1.full⟩):=zDb _ _ _ _ _
  have hfull : (mayP l s1 t).full = s1.full:=by unfold mayP; split <;> rfl
  simp [hlt',ht];refine ⟨_,_,mC _,?_⟩;simp [ho];exact ⟨q + 1,⟨(mayP l s1 t).at_,!isP l s1 t 0,s1.full⟩,⟨by omega,za t h1,hm⟩,by omega,zD hlt (by unfold maxLen; omega),by rw [hfull]⟩
 .have hlt' : ¬ (q : Int) < (ts.length : Int):=by omega
  have hd : ts.drop q = []:=List.drop_of_length_le (by omega)
  rw [hd] at hm
  have hm : s1 = zV l s ts:=hm
  simp [hlt',hm]
theorem zFU {l : List Tok} (s : RS) (k : Int) : RdC 156 [U k] l s (zg l s k) (Sg (zU l s k)):=fun S d i h=>by
 have ho:=h.o
 have hle:=h.le
 have hn:=h.n
 have hw : IntKind.i64.wrap ((s.at_ : Int) + 1) = ((s.at_ + 1 : Nat) : Int):=zBk (b:=1) (by unfold maxLen; omega)
 refine ADet.intro mixed Tryz.call156 Tryz.func156 rfl ?_;simp [Tryz.ntmps156];refine zA [] (by kernel_rfl) (by kernel_rfl) ?_
 unfold zg zU zEj
 cases hb : s.bad with
 | true =>
  simp [ho,hb]
 | false =>
  by_cases hlt : s.at_ < l.length
  .have hlt' : (s.at_ : Int) < (l.length : Int):=by omega
   have hlt2 : ¬ (l.length : Int) <= (s.at_ : Int):=by omega
   obtain ⟨x,ht⟩ : ∃ t,l[s.at_]? = some t:=⟨_,List.getElem?_eq_getElem hlt⟩
   by_cases hk : x.kind = k
   .have hw2 : IntKind.i64.wrap (s.at_ : Int) = (s.at_ : Int):=IntWalk.i64_in _ (by omega)
    simp [ho,hb,hlt',hlt2,ht,Tok.enc,hk,hw];refine zA [] (by kernel_rfl) (by kernel_rfl) ?_
    simp [ho,hb,hlt',hlt2,ht,Tok.enc,hk,hw,hw2];rfl
   .simp [ho,hb,hlt',hlt2,ht,Tok.enc,hk]
  .have hlt' : (l.length : Int) <= (s.at_ : Int):=by omega
   have hn : l[s.at_]? = none:=List.getElem?_eq_none (by omega)
   simp [ho,hb,hlt',hlt,hn]
end Go.Proofs.YtlclonljdagpkaaGreatDoor
namespace Go.Proofs.YtlclonljdagpkaaGreatDoor
open Go.RowKit
attribute [local simp] List.replicate List.range List.range.loop resA zR retA
theorem zB6 {l : List Tok} (s : RS) : RdC 88 [] l s (zg l s 2) (Sg (zU l s 2)):=fun S d i h=>by
 refine ADet.intro mixed Tryz.call88 Tryz.func88 rfl ?_;simp [Tryz.ntmps88];refine ⟨_,_,zFU s 2 _ _ _ (h.push _),?_⟩;simp
theorem zCr {l : List Tok} (s : RS) : RdC 83 [] l s (zg l s 3) (Sg (zU l s 3)):=fun S d i h=>by
 refine ADet.intro mixed Tryz.call83 Tryz.func83 rfl ?_;simp [Tryz.ntmps83];refine ⟨_,_,zFU s 3 _ _ _ (h.push _),?_⟩;simp
theorem fewW {l : List Tok} (s : RS) (n : Nat) : RdC 157 [I n,I 6] l s (fewP s n) .un:=fun S d i h=>by
 have ho:=h.o
 refine ADet.intro mixed Tryz.call157 Tryz.func157 rfl ?_;simp [Tryz.ntmps157];unfold fewP
 by_cases h6 : 6 < n
 .have h6' : (6 : Int) < (n : Int):=by omega
  cases hf : s.full <;> simp [ho,hf,h6,h6']
 .have h6' : ¬ (6 : Int) < (n : Int):=by omega
  cases hf : s.full <;> simp [ho,hf,h6,h6']
def mapK (l : List (ByteArray × Int)) : AObj:=.map (l.map fun x=>(.string x.1,U x.2))
theorem zb (s : ByteArray) : ∀ (l : List (ByteArray × Int)) (i : Nat),∃ j,zAU .string (.string s) (l.map fun x=>(.string x.1,U x.2)) i = some ((zAn s l).map fun k=>(j,U k))
 | [],i=>⟨0,rfl⟩
 | (t,k) :: l,i=>by
  rw [List.map_cons,zi,zAn]
  cases sEq s t with
  | true=>exact ⟨i,rfl⟩
  | false=>exact zb s l (i + 1)
theorem zDI (L : List AObj) (S : ASt) : ADet Tryz.prog 158 [] (L :: S) (.mp 0 L.length) ((L ++ [mapK zCO]) :: S):=by
 refine ADet.flat mixed Tryz.call158 Tryz.func158 rfl ?_;simp [Tryz.ntmps158,zCH,zi,mapK,zCO,zBh]
theorem zFV (L : List AObj) (S : ASt) : ADet Tryz.prog 159 [] (L :: S) (.mp 0 L.length) ((L ++ [mapK zEM]) :: S):=by
 refine ADet.flat mixed Tryz.call159 Tryz.func159 rfl ?_;simp [Tryz.ntmps159,zCH,zi,mapK,zEM,zBh]
abbrev tyA (t : Ty) : AV:=.agg [U t.kind,Sg t.name,.p (.sl 3 (t.args.map Ty.enc))]
theorem RdC.less {F : Nat} {args : List AV} {l : List Tok} {s s' : RS} {r r' : AV} (hle : LeA r r') (h : RdC F args l s s' r) : RdC F args l s s' r':=fun S d i hR=>ADet.less hle (h S d i hR)
theorem zDJ {l : List Tok} {s : RS} {k : Int} (h : zEj l s k = false) : s.bad = true \/ (s.bad = false /\ ¬ (s.at_ : Int) < (l.length : Int)) \/ (s.bad = false /\ (s.at_ : Int) < (l.length : Int) /\ ∃ x,l[s.at_]? = some x /\ ¬ x.kind = k):=by
 unfold zEj at h
 cases hb : s.bad with
 | true=>exact .inl rfl
 | false =>
  cases hx : l[s.at_]? with
  | none =>
   have:=List.getElem?_eq_none_iff.1 hx
   exact .inr (.inl ⟨rfl,by omega⟩)
  | some x =>
   have:=(List.getElem?_eq_some_iff.1 hx).1
   rw [hb,hx] at h;exact .inr (.inr ⟨rfl,by omega,x,rfl,by simpa using h⟩)
theorem zFW {l : List Tok} {s : RS} {k : Int} (h : zEj l s k = true) : s.bad = false /\ (s.at_ : Int) < (l.length : Int) /\ ∃ x,l[s.at_]? = some x /\ x.kind = k:=by
 unfold zEj at h;simp only [Bool.and_eq_true,Bool.not_eq_true'] at h
 cases hx : l[s.at_]? with
 | none=>rw [hx] at h; simp at h
 | some x =>
  have:=(List.getElem?_eq_some_iff.1 hx).1
  rw [hx] at h;exact ⟨h.1,by omega,x,rfl,by simpa using h.2⟩
theorem zJ {l : List Tok} {s : RS} (k : Int) (h : s.at_ <= l.length) : (zg l s k).at_ <= l.length:=by
 unfold zg;split
 .rename_i hh
  obtain ⟨_,hlt,_⟩:=zFW hh
  show s.at_ + 1 <= _; omega
 .exact h
theorem zCV : ∀ (n : Nat) (l : List Tok) (s : RS) (t : Ty) (s' : RS),s.at_ <= l.length -> zFv l n s = some (t,s') -> s'.at_ <= l.length
 | 0,l,s,t,s',_,h=>by simp [zFv] at h
 | n + 1,l,s,t,s',hs,h=>by
  unfold zFv at h;split at h
  .obtain ⟨⟨t1,s1⟩,hk,he⟩:=Option.map_eq_some_iff.1 h
   cases he;exact zCV n l _ t1 _ (za _ (za _ hs)) hk
  split at h
  .cases h; exact zJ 3 hs
  split at h
  .cases h; exact zJ 1 hs
  split at h
  .cases h; exact hs
  .obtain ⟨⟨t1,s1⟩,hk,he⟩:=Option.map_eq_some_iff.1 h
   cases he;exact zH _ _ (zCV n l _ t1 _ (zH _ _ (zJ 1 hs)) hk)
end Go.Proofs.YtlclonljdagpkaaGreatDoor
namespace Go.Proofs.YtlclonljdagpkaaGreatDoor
open Go.RowKit
attribute [local simp] List.replicate List.range List.range.loop resA zR retA zAi zAZ zY zAj zAb zQ rowA zf zT List.forall_mem_cons List.contains_cons List.contains_nil List.find? ze zd zS LCp LCl refL
theorem zNr {l : List Tok} {s : RS} {k : Int} (hs : s.at_ <= l.length) (h1 : isP l s (⟨#[38]⟩ : ByteArray) 0 = false) (hf : zAn (zU l s 1) zCO = some k) (hb : s.bad = true) : RdC 89 [] l s (zg l s 1) (.agg [U k,Sg emS,nilS]):=by
 have hm : mayP l s (⟨#[38]⟩ : ByteArray) = s:=by unfold mayP; rw [h1]; rfl
 have htl:=zJ (s:=s) 1 hs
 obtain ⟨j,hj⟩:=zb (zU l s 1) zCO 0
 rw [hf,Option.map_some] at hj;refine RdC.intro fun S d i hR=>?_
 have ho:=(hR.upd s hs).o
 have hot:=(hR.upd _ htl).o
 have hle:=hs
 have hn:=hR.n
 refine ADet.intro mixed Tryz.call89 Tryz.func89 rfl ?_;simp [Tryz.ntmps89];refine ⟨_,_,(mayW s (⟨#[38]⟩ : ByteArray)).at hR hs _,?_⟩;rw [h1,hm];simp [ho];refine zA [] (by kernel_rfl) (by kernel_rfl) ?_
 simp [ho,hb];refine ⟨_,_,(zFU s 1).at hR hs _,?_⟩;simp;refine ⟨_,_,zDI _ _,?_⟩;simp [mapK,hj]
theorem zNs {l : List Tok} {s : RS} {k : Int} (hs : s.at_ <= l.length) (h1 : isP l s (⟨#[38]⟩ : ByteArray) 0 = false) (hf : zAn (zU l s 1) zCO = some k) (hb : s.bad = false) (hlt : ¬ (s.at_ : Int) < (l.length : Int)) : RdC 89 [] l s (zg l s 1) (.agg [U k,Sg emS,nilS]):=by
 have hm : mayP l s (⟨#[38]⟩ : ByteArray) = s:=by unfold mayP; rw [h1]; rfl
 have htl:=zJ (s:=s) 1 hs
 obtain ⟨j,hj⟩:=zb (zU l s 1) zCO 0
 rw [hf,Option.map_some] at hj;refine RdC.intro fun S d i hR=>?_
 have ho:=(hR.upd s hs).o
 have hot:=(hR.upd _ htl).o
 have hle:=hs
 have hn:=hR.n
 refine ADet.intro mixed Tryz.call89 Tryz.func89 rfl ?_;simp [Tryz.ntmps89];refine ⟨_,_,(mayW s (⟨#[38]⟩ : ByteArray)).at hR hs _,?_⟩;rw [h1,hm];simp [ho];refine zA [] (by kernel_rfl) (by kernel_rfl) ?_
 simp [ho,hb,hlt];refine ⟨_,_,(zFU s 1).at hR hs _,?_⟩;simp;refine ⟨_,_,zDI _ _,?_⟩;simp [mapK,hj]
theorem zNt {l : List Tok} {s : RS} {k : Int} (hs : s.at_ <= l.length) (h1 : isP l s (⟨#[38]⟩ : ByteArray) 0 = false) (hf : zAn (zU l s 1) zCO = some k) (hb : s.bad = false) (hlt : (s.at_ : Int) < (l.length : Int)) {x : Tok} (hx : l[s.at_]? = some x) (hk : ¬ x.kind = 3) : RdC 89 [] l s (zg l s 1) (.agg [U k,Sg emS,nilS]):=by
 have hm : mayP l s (⟨#[38]⟩ : ByteArray) = s:=by unfold mayP; rw [h1]; rfl
 have htl:=zJ (s:=s) 1 hs
 obtain ⟨j,hj⟩:=zb (zU l s 1) zCO 0
 rw [hf,Option.map_some] at hj;refine RdC.intro fun S d i hR=>?_
 have ho:=(hR.upd s hs).o
 have hot:=(hR.upd _ htl).o
 have hle:=hs
 have hn:=hR.n
 refine ADet.intro mixed Tryz.call89 Tryz.func89 rfl ?_;simp [Tryz.ntmps89];refine ⟨_,_,(mayW s (⟨#[38]⟩ : ByteArray)).at hR hs _,?_⟩;rw [h1,hm];simp [ho];refine zA [] (by kernel_rfl) (by kernel_rfl) ?_
 simp [ho,hb,hlt,hx,hk,Tok.enc];refine ⟨_,_,(zFU s 1).at hR hs _,?_⟩;simp;refine ⟨_,_,zDI _ _,?_⟩;simp [mapK,hj]
theorem zNu {l : List Tok} {s : RS} (hs : s.at_ <= l.length) (h1 : isP l s (⟨#[38]⟩ : ByteArray) 0 = false) (hf : zAn (zU l s 1) zCO = none) (hg : zAn (zU l s 1) zEM = none) (hb : s.bad = true) : RdC 89 [] l s ⟨s.at_,true,s.full⟩ (.agg [U 0,Sg emS,nilS]):=by
 have hm : mayP l s (⟨#[38]⟩ : ByteArray) = s:=by unfold mayP; rw [h1]; rfl
 have htl:=zJ (s:=s) 1 hs
 obtain ⟨j,hj⟩:=zb (zU l s 1) zCO 0
 rw [hf,Option.map_none] at hj
 obtain ⟨j2,hj2⟩:=zb (zU l s 1) zEM 0
 rw [hg,Option.map_none] at hj2
 have hfu : (zg l s 1).full = s.full:=by unfold zg; split <;> rfl
 refine RdC.intro fun S d i hR=>?_
 have ho:=(hR.upd s hs).o
 have hot:=(hR.upd _ htl).o
 have hle:=hs
 have hn:=hR.n
 refine ADet.intro mixed Tryz.call89 Tryz.func89 rfl ?_;simp [Tryz.ntmps89];refine ⟨_,_,(mayW s (⟨#[38]⟩ : ByteArray)).at hR hs _,?_⟩;rw [h1,hm];simp [ho];refine zA [] (by kernel_rfl) (by kernel_rfl) ?_
 simp [ho,hb];refine ⟨_,_,(zFU s 1).at hR hs _,?_⟩;simp;refine ⟨_,_,zDI _ _,?_⟩;simp [mapK,hj];refine ⟨_,_,zFV _ _,?_⟩
 have hRo:=hR.o
 simp [mapK,hj2,hot,hfu,hRo]
theorem zNv {l : List Tok} {s : RS} (hs : s.at_ <= l.length) (h1 : isP l s (⟨#[38]⟩ : ByteArray) 0 = false) (hf : zAn (zU l s 1) zCO = none) (hg : zAn (zU l s 1) zEM = none) (hb : s.bad = false) (hlt : ¬ (s.at_ : Int) < (l.length : Int)) : RdC 89 [] l s ⟨s.at_,true,s.full⟩ (.agg [U 0,Sg emS,nilS]):=by
 have hm : mayP l s (⟨#[38]⟩ : ByteArray) = s:=by unfold mayP; rw [h1]; rfl
 have htl:=zJ (s:=s) 1 hs
 obtain ⟨j,hj⟩:=zb (zU l s 1) zCO 0
 rw [hf,Option.map_none] at hj
 obtain ⟨j2,hj2⟩:=zb (zU l s 1) zEM 0
 rw [hg,Option.map_none] at hj2
 have hfu : (zg l s 1).full = s.full:=by unfold zg; split <;> rfl
 refine RdC.intro fun S d i hR=>?_
 have ho:=(hR.upd s hs).o
 have hot:=(hR.upd _ htl).o
 have hle:=hs
 have hn:=hR.n
 refine ADet.intro mixed Tryz.call89 Tryz.func89 rfl ?_;simp [Tryz.ntmps89];refine ⟨_,_,(mayW s (⟨#[38]⟩ : ByteArray)).at hR hs _,?_⟩;rw [h1,hm];simp [ho];refine zA [] (by kernel_rfl) (by kernel_rfl) ?_
 simp [ho,hb,hlt];refine ⟨_,_,(zFU s 1).at hR hs _,?_⟩;simp;refine ⟨_,_,zDI _ _,?_⟩;simp [mapK,hj];refine ⟨_,_,zFV _ _,?_⟩
 have hRo:=hR.o
 simp [mapK,hj2,hot,hfu,hRo]
theorem zNw {l : List Tok} {s : RS} (hs : s.at_ <= l.length) (h1 : isP l s (⟨#[38]⟩ : ByteArray) 0 = false) (hf : zAn (zU l s 1) zCO = none) (hg : zAn (zU l s 1) zEM = none) (hb : s.bad = false) (hlt : (s.at_ : Int) < (l.length : Int)) {x : Tok} (hx : l[s.at_]? = some x) (hk : ¬ x.kind = 3) : RdC 89 [] l s ⟨s.at_,true,s.full⟩ (.agg [U 0,Sg emS,nilS]):=by
 have hm : mayP l s (⟨#[38]⟩ : ByteArray) = s:=by unfold mayP; rw [h1]; rfl
 have htl:=zJ (s:=s) 1 hs
 obtain ⟨j,hj⟩:=zb (zU l s 1) zCO 0
 rw [hf,Option.map_none] at hj
 obtain ⟨j2,hj2⟩:=zb (zU l s 1) zEM 0
 rw [hg,Option.map_none] at hj2
 have hfu : (zg l s 1).full = s.full:=by unfold zg; split <;> rfl
 refine RdC.intro fun S d i hR=>?_
 have ho:=(hR.upd s hs).o
 have hot:=(hR.upd _ htl).o
 have hle:=hs
 have hn:=hR.n
 refine ADet.intro mixed Tryz.call89 Tryz.func89 rfl ?_;simp [Tryz.ntmps89];refine ⟨_,_,(mayW s (⟨#[38]⟩ : ByteArray)).at hR hs _,?_⟩;rw [h1,hm];simp [ho];refine zA [] (by kernel_rfl) (by kernel_rfl) ?_
 simp [ho,hb,hlt,hx,hk,Tok.enc];refine ⟨_,_,(zFU s 1).at hR hs _,?_⟩;simp;refine ⟨_,_,zDI _ _,?_⟩;simp [mapK,hj];refine ⟨_,_,zFV _ _,?_⟩
 have hRo:=hR.o
 simp [mapK,hj2,hot,hfu,hRo]
theorem zNx {l : List Tok} {s : RS} {k : Int} {t1 : Ty} {s1 : RS} (hs : s.at_ <= l.length) (h1 : isP l s (⟨#[38]⟩ : ByteArray) 0 = false) (hf : zAn (zU l s 1) zCO = none) (hg : zAn (zU l s 1) zEM = some k) (hm2 : s1.at_ <= l.length) (ih : RdC 89 [] l (zV l (zg l s 1) [(⟨#[60]⟩ : ByteArray)]) s1 (tyA t1)) (hb : s.bad = true) : RdC 89 [] l s (zV l s1 [(⟨#[62]⟩ : ByteArray)]) (tyA (.mk k emS [t1])):=by
 have hm : mayP l s (⟨#[38]⟩ : ByteArray) = s:=by unfold mayP; rw [h1]; rfl
 have htl:=zJ (s:=s) 1 hs
 obtain ⟨j,hj⟩:=zb (zU l s 1) zCO 0
 rw [hf,Option.map_none] at hj
 obtain ⟨j2,hj2⟩:=zb (zU l s 1) zEM 0
 rw [hg,Option.map_some] at hj2
 have hm1:=zH [(⟨#[60]⟩ : ByteArray)] _ htl
 refine RdC.intro fun S d i hR=>?_
 have ho:=(hR.upd s hs).o
 have hot:=(hR.upd _ htl).o
 have hle:=hs
 have hn:=hR.n
 refine ADet.intro mixed Tryz.call89 Tryz.func89 rfl ?_;simp [Tryz.ntmps89];refine ⟨_,_,(mayW s (⟨#[38]⟩ : ByteArray)).at hR hs _,?_⟩;rw [h1,hm];simp [ho];refine zA [] (by kernel_rfl) (by kernel_rfl) ?_
 simp [ho,hb];refine ⟨_,_,(zFU s 1).at hR hs _,?_⟩;simp;refine ⟨_,_,zDI _ _,?_⟩;simp [mapK,hj];refine ⟨_,_,zFV _ _,?_⟩;simp [mapK,hj2];refine ⟨_,_,ADet.sub (.cons (.refl _) (.cons (.osl (.refl _)) (.refl _))) ((zB5 (zg l s 1) [(⟨#[60]⟩ : ByteArray)] (by simp) htl).at hR htl _),?_⟩
 simp;refine ⟨_,_,ih.at hR hm1 _,?_⟩;simp;refine ⟨_,_,ADet.sub (.cons (.refl _) (.cons (.osl (.refl _)) (.refl _))) ((zB5 s1 [(⟨#[62]⟩ : ByteArray)] (by simp) hm2).at hR hm2 _),?_⟩
 simp;exact ⟨rfl,rfl,by simp [Ty.args,zC4]⟩
theorem zNy {l : List Tok} {s : RS} {k : Int} {t1 : Ty} {s1 : RS} (hs : s.at_ <= l.length) (h1 : isP l s (⟨#[38]⟩ : ByteArray) 0 = false) (hf : zAn (zU l s 1) zCO = none) (hg : zAn (zU l s 1) zEM = some k) (hm2 : s1.at_ <= l.length) (ih : RdC 89 [] l (zV l (zg l s 1) [(⟨#[60]⟩ : ByteArray)]) s1 (tyA t1)) (hb : s.bad = false) (hlt : ¬ (s.at_ : Int) < (l.length : Int)) : RdC 89 [] l s (zV l s1 [(⟨#[62]⟩ : ByteArray)]) (tyA (.mk k emS [t1])):=by
 have hm : mayP l s (⟨#[38]⟩ : ByteArray) = s:=by unfold mayP; rw [h1]; rfl
 have htl:=zJ (s:=s) 1 hs
 obtain ⟨j,hj⟩:=zb (zU l s 1) zCO 0
 rw [hf,Option.map_none] at hj
 obtain ⟨j2,hj2⟩:=zb (zU l s 1) zEM 0
 rw [hg,Option.map_some] at hj2
 have hm1:=zH [(⟨#[60]⟩ : ByteArray)] _ htl
 refine RdC.intro fun S d i hR=>?_
 have ho:=(hR.upd s hs).o
 have hot:=(hR.upd _ htl).o
 have hle:=hs
 have hn:=hR.n
 refine ADet.intro mixed Tryz.call89 Tryz.func89 rfl ?_;simp [Tryz.ntmps89];refine ⟨_,_,(mayW s (⟨#[38]⟩ : ByteArray)).at hR hs _,?_⟩;rw [h1,hm];simp [ho];refine zA [] (by kernel_rfl) (by kernel_rfl) ?_
 simp [ho,hb,hlt];refine ⟨_,_,(zFU s 1).at hR hs _,?_⟩;simp;refine ⟨_,_,zDI _ _,?_⟩;simp [mapK,hj];refine ⟨_,_,zFV _ _,?_⟩;simp [mapK,hj2];refine ⟨_,_,ADet.sub (.cons (.refl _) (.cons (.osl (.refl _)) (.refl _))) ((zB5 (zg l s 1) [(⟨#[60]⟩ : ByteArray)] (by simp) htl).at hR htl _),?_⟩
 simp;refine ⟨_,_,ih.at hR hm1 _,?_⟩;simp;refine ⟨_,_,ADet.sub (.cons (.refl _) (.cons (.osl (.refl _)) (.refl _))) ((zB5 s1 [(⟨#[62]⟩ : ByteArray)] (by simp) hm2).at hR hm2 _),?_⟩
 simp;exact ⟨rfl,rfl,by simp [Ty.args,zC4]⟩
theorem zNz {l : List Tok} {s : RS} {k : Int} {t1 : Ty} {s1 : RS} (hs : s.at_ <= l.length) (h1 : isP l s (⟨#[38]⟩ : ByteArray) 0 = false) (hf : zAn (zU l s 1) zCO = none) (hg : zAn (zU l s 1) zEM = some k) (hm2 : s1.at_ <= l.length) (ih : RdC 89 [] l (zV l (zg l s 1) [(⟨#[60]⟩ : ByteArray)]) s1 (tyA t1)) (hb : s.bad = false) (hlt : (s.at_ : Int) < (l.length : Int)) {x : Tok} (hx : l[s.at_]? = some x) (hk : ¬ x.kind = 3) : RdC 89 [] l s (zV l s1 [(⟨#[62]⟩ : ByteArray)]) (tyA (.mk k emS [t1])):=by
 have hm : mayP l s (⟨#[38]⟩ : ByteArray) = s:=by unfold mayP; rw [h1]; rfl
 have htl:=zJ (s:=s) 1 hs
 obtain ⟨j,hj⟩:=zb (zU l s 1) zCO 0
 rw [hf,Option.map_none] at hj
 obtain ⟨j2,hj2⟩:=zb (zU l s 1) zEM 0
 rw [hg,Option.map_some] at hj2
 have hm1:=zH [(⟨#[60]⟩ : ByteArray)] _ htl
 refine RdC.intro fun S d i hR=>?_
 have ho:=(hR.upd s hs).o
 have hot:=(hR.upd _ htl).o
 have hle:=hs
 have hn:=hR.n
 refine ADet.intro mixed Tryz.call89 Tryz.func89 rfl ?_;simp [Tryz.ntmps89];refine ⟨_,_,(mayW s (⟨#[38]⟩ : ByteArray)).at hR hs _,?_⟩;rw [h1,hm];simp [ho];refine zA [] (by kernel_rfl) (by kernel_rfl) ?_
 simp [ho,hb,hlt,hx,hk,Tok.enc];refine ⟨_,_,(zFU s 1).at hR hs _,?_⟩;simp;refine ⟨_,_,zDI _ _,?_⟩;simp [mapK,hj];refine ⟨_,_,zFV _ _,?_⟩;simp [mapK,hj2];refine ⟨_,_,ADet.sub (.cons (.refl _) (.cons (.osl (.refl _)) (.refl _))) ((zB5 (zg l s 1) [(⟨#[60]⟩ : ByteArray)] (by simp) htl).at hR htl _),?_⟩
 simp;refine ⟨_,_,ih.at hR hm1 _,?_⟩;simp;refine ⟨_,_,ADet.sub (.cons (.refl _) (.cons (.osl (.refl _)) (.refl _))) ((zB5 s1 [(⟨#[62]⟩ : ByteArray)] (by simp) hm2).at hR hm2 _),?_⟩
 simp;exact ⟨rfl,rfl,by simp [Ty.args,zC4]⟩
theorem zII : ∀ (n : Nat) (l : List Tok) (s : RS) (t : Ty) (s' : RS),s.at_ <= l.length -> zFv l n s = some (t,s') -> RdC 89 [] l s s' (tyA t)
 | 0,l,s,t,s',_,h=>by simp [zFv] at h
 | n + 1,l,s,t,s',hs,h=>by
  unfold zFv at h
  cases h1 : isP l s (⟨#[38]⟩ : ByteArray) 0 with
  | true =>
   rw [h1,if_pos rfl] at h
   dsimp only at h
   obtain ⟨⟨t1,s1⟩,hk,he⟩:=Option.map_eq_some_iff.1 h
   have hm1:=za (s:=s) (⟨#[38]⟩ : ByteArray) hs
   have hm2:=za (s:=mayP l s (⟨#[38]⟩ : ByteArray)) (⟨#[109,117,116]⟩ : ByteArray) hm1
   have ih:=zII n l _ t1 s1 hm2 hk
   refine RdC.intro fun S d i hR=>?_
   refine ADet.intro mixed Tryz.call89 Tryz.func89 rfl ?_;simp [Tryz.ntmps89];refine ⟨_,_,(mayW s (⟨#[38]⟩ : ByteArray)).at hR hs _,?_⟩;rw [h1];simp;refine ⟨_,_,(mayW _ (⟨#[109,117,116]⟩ : ByteArray)).at hR hm1 _,?_⟩
   cases h2 : isP l (mayP l s (⟨#[38]⟩ : ByteArray)) (⟨#[109,117,116]⟩ : ByteArray) 0 with
   | true =>
    rw [h2] at he;cases he;simp;refine ⟨_,_,ih.at hR hm2 _,?_⟩;simp
    exact ⟨rfl,rfl,by simp [Ty.args,zC4]⟩
   | false =>
    rw [h2] at he;cases he;simp;refine ⟨_,_,ih.at hR hm2 _,?_⟩;simp
    exact ⟨rfl,rfl,by simp [Ty.args,zC4]⟩
  | false =>
  rw [h1,if_neg (by simp)] at h
  cases hh : zEj l s 3 with
  | true =>
   rw [hh,if_pos rfl] at h;cases h
   obtain ⟨hb,hlt,x,hx,hk⟩:=zFW hh
   refine RdC.less (r:=.agg [U 4,Sg (zU l s 3),nilS]) (by repeat' constructor) (RdC.intro fun S d i hR=>?_)
   have hm : mayP l s (⟨#[38]⟩ : ByteArray) = s:=by unfold mayP; rw [h1]; rfl
   have ho:=(hR.upd s hs).o
   refine ADet.intro mixed Tryz.call89 Tryz.func89 rfl ?_;simp [Tryz.ntmps89];refine ⟨_,_,(mayW s (⟨#[38]⟩ : ByteArray)).at hR hs _,?_⟩;rw [h1,hm];simp [ho];refine zA [] (by kernel_rfl) (by kernel_rfl) ?_
   simp [ho,hb,hlt,hx,hk,Tok.enc];refine ⟨_,_,(zCr s).at hR hs _,?_⟩
   simp
  | false =>
  rw [hh,if_neg (by simp)] at h
  have htl:=zJ (s:=s) 1 hs
  cases hf : zAn (zU l s 1) zCO with
  | some k =>
   rw [hf] at h;cases h;refine RdC.less (r:=.agg [U k,Sg emS,nilS]) (by repeat' constructor) ?_
   rcases zDJ hh with hb | ⟨hb,hlt⟩ | ⟨hb,hlt,x,hx,hk⟩
   .exact zNr hs h1 hf hb
   .exact zNs hs h1 hf hb hlt
   .exact zNt hs h1 hf hb hlt hx hk
  | none =>
  rw [hf] at h
  dsimp only at h
  cases hg : zAn (zU l s 1) zEM with
  | none =>
   rw [hg] at h;cases h;refine RdC.less (r:=.agg [U 0,Sg emS,nilS]) (by repeat' constructor) ?_
   rcases zDJ hh with hb | ⟨hb,hlt⟩ | ⟨hb,hlt,x,hx,hk⟩
   .exact zNu hs h1 hf hg hb
   .exact zNv hs h1 hf hg hb hlt
   .exact zNw hs h1 hf hg hb hlt hx hk
  | some k =>
   rw [hg] at h
   dsimp only at h
   obtain ⟨⟨t1,s1⟩,hk,he⟩:=Option.map_eq_some_iff.1 h
   cases he
   have hm1:=zH [(⟨#[60]⟩ : ByteArray)] _ htl
   have hm2:=zCV n l _ t1 s1 hm1 hk
   have ih:=zII n l _ t1 s1 hm1 hk
   rcases zDJ hh with hb | ⟨hb,hlt⟩ | ⟨hb,hlt,x,hx,hk⟩
   .exact zNx hs h1 hf hg hm2 ih hb
   .exact zNy hs h1 hf hg hm2 ih hb hlt
   .exact zNz hs h1 hf hg hm2 ih hb hlt hx hk
end Go.Proofs.YtlclonljdagpkaaGreatDoor
