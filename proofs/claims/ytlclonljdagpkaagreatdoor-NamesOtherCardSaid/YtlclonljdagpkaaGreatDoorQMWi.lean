/- A part of the proof. The statement is proved in the claim's last text. -/
import Derived.Test.YtlclonljdagpkaaGreatDoorQMUa
import Derived.Test.YtlclonljdagpkaaGreatDoorQMUb
import Derived.Test.YtlclonljdagpkaaGreatDoorQMUc
set_option linter.unusedVariables false
set_option linter.unusedSimpArgs false
set_option maxRecDepth 100000
set_option maxHeartbeats 32000000
namespace Go.Proofs.YtlclonljdagpkaaGreatDoor
open Go.RowKit
attribute [local simp] List.replicate List.range List.range.loop resA zR retA
theorem zXw (op : Int) (h : fmOk op = true) : (zAB op = true /\ zk op = false /\ zAc op = false /\ zAd op = false /\ zAe op = false) \/ (zAB op = false /\ zk op = true /\ zAc op = false /\ zAd op = false /\ zAe op = false) \/
  (zAB op = false /\ zk op = true /\ zAc op = true /\ zAd op = false /\ zAe op = false) \/ (zAB op = false /\ zk op = false /\ zAc op = true /\ zAd op = true /\ zAe op = false) \/
  (zAB op = false /\ zk op = false /\ zAc op = false /\ zAd op = false /\ zAe op = true) \/ (zAB op = false /\ zk op = false /\ zAc op = true /\ zAd op = false /\ zAe op = false) \/
  (zAB op = false /\ zk op = false /\ zAc op = false /\ zAd op = false /\ zAe op = false):=by
 unfold fmOk at h;simp only [Bool.and_eq_true,decide_eq_true_eq] at h
 have hop : op = 1 \/ op = 2 \/ op = 3 \/ op = 4 \/ op = 5 \/ op = 6 \/ op = 7 \/ op = 8 \/ op = 9 \/ op = 10 \/ op = 11 \/ op = 12 \/ op = 13:=by omega
 rcases hop with rfl | rfl | rfl | rfl | rfl | rfl | rfl | rfl | rfl | rfl | rfl | rfl | rfl <;> decide
theorem zH5 (s : St) (d : Int) (S : ASt) (h : ¬ 1 <= d \/ fmOk s.op = false) : ADet Tryz.prog 108 [stmV s,I d] S (B (s.whole d)) S:=by
 have e : s.whole d = false:=by
  rw [zB]
  rcases h with h | h <;> simp [zO,h]
 rw [e];refine ADet.intro mixed Tryz.call108 Tryz.func108 rfl ?_;simp [Tryz.ntmps108];refine ⟨_,_,zDm s _,?_⟩
 by_cases h0 : d < 1
 .simp [h0,fmV]
 .have ho : fmOk s.op = false:=h.resolve_left (by omega)
  simp [h0,ho,fmV]
theorem zF9 : ∀ (s : St),StSm s -> WSC s:=by
 refine St.ind fun s ih1 ih2 ih3 hsm d S hd1 hd2=>?_
 have hsm':=hsm
 obtain ⟨_,_,_,_,_,_,_,_,_,_,hbs,hes,has,hab⟩:=hsm'
 have i1 : ∀ x ∈ s.body,WSC x:=fun x hx=>ih1 x hx (hbs x hx)
 have i2 : ∀ x ∈ s.els,WSC x:=fun x hx=>ih2 x hx (hes x hx)
 have i3 : ∀ a ∈ s.arms,∀ x ∈ a.body,WSC x:=fun a ha x hx=>ih3 a ha x hx (hab a ha x hx)
 by_cases h0 : 1 <= d
 .cases ho : fmOk s.op with
  | false=>exact zH5 s d S (.inr ho)
  | true =>
   rcases zXw s.op ho with ⟨a,b,c,e,f⟩ | ⟨a,b,c,e,f⟩ | ⟨a,b,c,e,f⟩ | ⟨a,b,c,e,f⟩ | ⟨a,b,c,e,f⟩ | ⟨a,b,c,e,f⟩ | ⟨a,b,c,e,f⟩
   .exact zNU s hsm i1 i2 i3 d S hd1 hd2 h0 ho a b c e f
   .exact zNV s hsm i1 i2 i3 d S hd1 hd2 h0 ho a b c e f
   .exact zNW s hsm i1 i2 i3 d S hd1 hd2 h0 ho a b c e f
   .exact zNX s hsm i1 i2 i3 d S hd1 hd2 h0 ho a b c e f
   .exact zNY s hsm i1 i2 i3 d S hd1 hd2 h0 ho a b c e f
   .exact zNZ s hsm i1 i2 i3 d S hd1 hd2 h0 ho a b c e f
   .exact zNa s hsm i1 i2 i3 d S hd1 hd2 h0 ho a b c e f
 .exact zH5 s d S (.inl h0)
end Go.Proofs.YtlclonljdagpkaaGreatDoor
namespace Go.Proofs.YtlclonljdagpkaaGreatDoor
open Go.RowKit
attribute [local simp] List.replicate List.range List.range.loop resA zR retA AV.cuts AV.cut AObj.cut trim wkR wkT wkL wkN wkNR wkNL wkM wkMR wkML
theorem ADet.nilP {P : Program} {F : FuncId} {as1 as2 : List AV} {k : Nat} {S S' : ASt} {r : AV} (h : ADet P F (as1 ++ .p (.sl k []) :: as2) S r S') : ADet P F (as1 ++ nilS :: as2) S r S':=by
 refine ⟨h.1,fun Pr φ xs w hargs hR hne=>h.2 Pr φ xs w ⟨by rw [<- hargs.1]; simp,fun j c x hc hx=>?_⟩ hR hne⟩
 rcases Nat.lt_trichotomy j as1.length with hj | hj | hj
 .rw [List.getElem?_append_left hj] at hc
  exact hargs.2 j c x (by rw [List.getElem?_append_left hj]; exact hc) hx
 .subst hj
  rw [List.getElem?_append_right (Nat.le_refl _),Nat.sub_self] at hc;cases hc
  have h0:=hargs.2 as1.length nilS x (by simp) hx
  cases h0 with
  | p h0 =>
   cases h0 with
   | v _=>exact .p (.slemp k none 0 (Nat.zero_le _))
 .have hj' : as1.length <= j:=by omega
  obtain ⟨k',hk⟩ : ∃ k',j - as1.length = k' + 1:=⟨j - as1.length - 1,by omega⟩
  rw [List.getElem?_append_right hj',hk] at hc;exact hargs.2 j c x (by rw [List.getElem?_append_right hj',hk]; exact hc) hx
theorem zSr (l : List ByteArray) (S : ASt) : ADet Tryz.prog 215 [.p (strs l),.p (.sl 1 [])] S (B (decide (l.length = 0))) S:=by
 refine ADet.intro mixed Tryz.call215 Tryz.func215 rfl ?_
 rcases l with _ | ⟨s,l⟩
 .simp [Tryz.ntmps215,strs]
  refine zE (fun q : Nat=>q = 0) (fun q=>(List.replicate 12 .any ++ ([I 0,I 0] ++ List.replicate 12 .any))) (fun q=>[] :: S) (fun q=>0) 0 rfl ?_ ?_ ?_
  .simp
  .simp
  rintro q rfl
  simp
 .have h1 : ((l.length : Int) + 1 != 0) = true:=by simp; omega
  simp [Tryz.ntmps215,strs,h1]
theorem zSs (l : List ByteArray) (S : ASt) : ADet Tryz.prog 215 [.p (strs l),nilS] S (B (decide (l.length = 0))) S :=
 ADet.nilP (as1:=[.p (strs l)]) (as2:=[]) (zSr l S)
theorem zSt (l : List Ex) (S : ASt) : ADet Tryz.prog 166 [.p (.sl 8 (l.map Ex.enc)),.p (.sl 8 []),.fn (.func 101) [] []] S (B (decide (l.length = 0))) S:=by
 refine ADet.intro mixed Tryz.call166 Tryz.func166 rfl ?_
 rcases l with _ | ⟨s,l⟩
 .simp [Tryz.ntmps166]
  refine zE (fun q : Nat=>q = 0) (fun q=>(List.replicate 16 .any ++ ([I 0,I 0] ++ List.replicate 14 .any))) (fun q=>[] :: S) (fun q=>0) 0 rfl ?_ ?_ ?_
  .simp
  .simp
  rintro q rfl
  simp
 .have h1 : ((l.length : Int) + 1 != 0) = true:=by simp; omega
  simp [Tryz.ntmps166,h1]
theorem zSu (l : List Ex) (S : ASt) : ADet Tryz.prog 166 [.p (.sl 8 (l.map Ex.enc)),nilS,.fn (.func 101) [] []] S (B (decide (l.length = 0))) S :=
 ADet.nilP (as1:=[.p (.sl 8 (l.map Ex.enc))]) (as2:=[.fn (.func 101) [] []]) (zSt l S)
theorem zNb (x : Pl) (S : ASt) : ADet Tryz.prog 165 [plV x,.agg [Sg emS,nilS]] S (B (sEq x.name emS && decide (x.path.length = 0))) S:=by
 refine ADet.intro mixed Tryz.call165 Tryz.func165 rfl ?_
 cases hs : sEq x.name emS with
 | false=>simp [Tryz.ntmps165,hs]
 | true =>
  simp [Tryz.ntmps165,hs];refine ⟨_,_,zSs x.path _,?_⟩;simp
theorem zGA (e : Ex) (S : ASt) : ADet Tryz.prog 101 [exV e,.agg [U 0,I 0,Sg emS,Sg emS,Sg emS,nilS,nilS,I 0]] S (B (zCa e)) S:=by
 have hS:=fun S=>zNb e.place S
 have hR : zCa e = ((e.op == 0) && ((e.int == 0) && (sEq e.name emS && (sEq e.second emS && ((sEq e.place.name emS && decide (e.place.path.length = 0)) && decide (e.args.length = 0)))))):=rfl
 generalize zCa e = R at *
 generalize (sEq e.place.name emS && decide (e.place.path.length = 0)) = b5 at *
 refine ADet.intro mixed Tryz.call101 Tryz.func101 rfl ?_
 rcases (Bool.eq_false_or_eq_true (e.op == 0)).symm with h1 | h1
 .have e0 : R = false:=by rw [hR,h1]; rfl
  simp [Tryz.ntmps101,h1,e0]
 rcases (Bool.eq_false_or_eq_true (e.int == 0)).symm with h2 | h2
 .have e0 : R = false:=by rw [hR,h1,h2]; rfl
  simp [Tryz.ntmps101,h1,h2,e0]
 rcases (Bool.eq_false_or_eq_true (sEq e.name emS)).symm with h3 | h3
 .have e0 : R = false:=by rw [hR,h1,h2,h3]; rfl
  simp [Tryz.ntmps101,h1,h2,h3,e0]
 rcases (Bool.eq_false_or_eq_true (sEq e.second emS)).symm with h4 | h4
 .have e0 : R = false:=by rw [hR,h1,h2,h3,h4]; rfl
  simp [Tryz.ntmps101,h1,h2,h3,h4,e0]
 rw [h1,h2,h3,h4,Bool.true_and,Bool.true_and,Bool.true_and,Bool.true_and] at hR;simp [Tryz.ntmps101,h1,h2,h3,h4];refine ⟨_,_,hS _,?_⟩
 cases b5 with
 | false =>
  have e0 : R = false:=by rw [hR,Bool.false_and]
  simp [e0]
 | true =>
  rw [Bool.true_and] at hR;rw [hR];simp;refine ⟨_,_,zSu e.args _,?_⟩;simp
def nfK (k : Int) : Nat:=if k = 2 then 102 else 103
theorem nfC (k : Int) (s : ByteArray) (h : s.size <= 20000) (S : ASt) : ADet Tryz.prog (nfK k) [Sg s] S (B (if k = 2 then zBg s else zAX s)) S:=by
 unfold nfK;split
 .exact zCl s (zAg h) S
 .exact zBP s (zAg h) S
theorem zJ4 (k : Int) (f : Fi) (hf : FiSm f) (d : Int) (h0 : -1 <= d - 1) (h1 : d <= 1000) (S : ASt) (n i1 i2 m j : Nat) (k1 : get2 S n i1 = some (.cells [.fn (.func (nfK k)) [] []] 49)) (k2 : get2 S n i2 = some (.cells [B (k == 2)] 4)) (k3 : get2 S m j = some (.cells [I d] 3)) :
  ADet Tryz.prog 98 [fiV f,.ptr n i1 0,.ptr n i2 0,.ptr m j 0] S (B (zCJ k d f)) S:=by
 have g1:=fun S=>nfC k f.name hf.1 S
 have g2:=fun S=>zB4 f.type S
 have g3:=fun S=>zAk f.type hf.2 (d - 1) S (by omega) (by omega)
 unfold zCJ
 generalize (if k = 2 then zBg f.name else zAX f.name) = b1 at *
 generalize (k == 2) = b2 at *
 refine ADet.intro mixed Tryz.call98 Tryz.func98 rfl ?_;simp [Tryz.ntmps98,k1];refine ⟨_,_,g1 _,?_⟩
 cases b1 with
 | false=>simp [k2]
 | true =>
  cases b2 with
  | false =>
   simp [k2,k3,wrd d (by omega)]
   refine ⟨_,_,g3 _,?_⟩
   simp
  | true =>
   simp [k2];refine ⟨_,_,g2 _,?_⟩
   cases hz : zBA f.type with
   | true=>simp
   | false =>
    simp [k3,wrd d (by omega)]
    refine ⟨_,_,g3 _,?_⟩;simp
theorem zEf (k : Int) (x : It) (hf : zVa x.fields) (d : Int) (h0 : -1 <= d - 1) (h1 : d <= 1000) (S : ASt) (n i j : Nat) (hi : get2 S n i = some (.cells (itU x) 42)) (hj : get2 S n j = some (.cells [I d] 3)) :
  ADet Tryz.prog 96 [.fn (.func (nfK k)) [] [],B (k == 2),.ptr n i 0,.ptr n j 0] S (B (z5 (zCJ k d) x.fields 6)) S:=by
 have hal:=zPz (zCJ k d) x.fields 6 (by omega) 98 [] [.ptr 0 0 0,.ptr 0 1 0,.ptr (n + 1) j 0] ([.cells [.fn (.func (nfK k)) [] []] 49,.cells [B (k == 2)] 4] :: S) fun f hm L=>by
  simp only [AV.ups,AV.up,List.nil_append];exact zJ4 k f (hf.2 f hm) d h0 h1 _ 1 0 1 (n + 2) j rfl rfl hj
 generalize (k == 2) = b2 at *
 refine ADet.intro mixed Tryz.call96 Tryz.func96 rfl ?_;simp [Tryz.ntmps96,hi];refine ⟨_,_,hal,?_⟩;simp
theorem zLB (x : St) (hx : WSC x) (d : Int) (h0 : -1 <= d - 1) (h1 : d <= 1000) (S : ASt) (n j : Nat) (hj : get2 S n j = some (.cells [I d] 3)) : ADet Tryz.prog 107 [stmV x,.ptr n j 0] S (B (x.whole (d - 1))) S:=by
 refine ADet.intro mixed Tryz.call107 Tryz.func107 rfl ?_;simp [Tryz.ntmps107,hj,wrd d (by omega)]
 refine ⟨_,_,hx (d - 1) _ (by omega) (by omega),?_⟩
 simp
theorem zEw (l : List St) (hx : ∀ x ∈ l,WSC x) (hm : l.length <= 20000) (d : Int) (h0 : -1 <= d - 1) (h1 : d <= 1000) (S : ASt) (n j : Nat) (hj : get2 S n j = some (.cells [I d] 3)) :
  ADet Tryz.prog 106 [.p (.sl 15 (l.map St.enc)),I l.length,.fn (.func 107) [] [.ptr n j 0]] S (B (l.all fun x=>x.whole (d - 1))) S:=by
 have:=zMM (fun x=>x.whole (d - 1)) l l.length (by omega) 107 [] [.ptr n j 0] S fun x hm L=>by
  simp only [AV.ups,AV.up,List.nil_append];exact zLB x (hx x hm) d h0 h1 (L :: S) (n + 1) j hj
 rw [zCi (Int.le_refl _)] at this;exact this
def WIC (x : It) : Prop:=∀ (d : Int) (S : ASt),0 <= d -> d <= 1000 -> ADet Tryz.prog 46 [itV x,I d] S (B (x.whole d)) S
theorem zLC (x : It) (hsm : ItSm x) (hk : x.kind = 1) : WIC x:=by
 intro d S hd1 hd2
 obtain ⟨hn,hfs,hty,hbs,hex⟩:=hsm
 have gZ:=fun S=>zB4 x.result S
 have gS:=fun S=>zGA x.ret S
 have gY:=fun S=>zCl x.name (zAg hn) S
 have gN:=fun S=>zBP x.name (zAg hn) S
 have gT:=fun S=>zAk x.result hty (d - 1) S (by omega) (by omega)
 have gL:=fun S=>zNT x.ret S
 have gE:=fun S=>zAx x.ret hex (d - 1) S (by omega) (by omega)
 have gB:=fun S h=>zEw x.body (fun s hs=>zF9 s (hbs.2 s hs)) hbs.1 d (by omega) hd2 S 0 1 h
 have gF:=fun S h1 h2=>zEf 1 x hfs d (by omega) hd2 S 0 0 1 h1 h2
 have T : ∀ m : Int,(x.kind == m) = ((1 : Int) == m):=fun m=>by rw [hk]
 have hw : x.whole d = ((zBA x.result && (decide (x.body.length = 0) && (zCa x.ret && zBg x.name))) && z5 (zCJ 1 d) x.fields 6):=by
  unfold It.whole; rw [if_pos (by omega),hk]
 refine ADet.intro mixed Tryz.call46 Tryz.func46 rfl ?_;simp [Tryz.ntmps46];refine ⟨_,_,gZ _,?_⟩
 cases hz : zBA x.result with
 | false =>
  simp only [hz,Bool.false_and] at hw
  simp [T,hz,hw]
 | true =>
  by_cases hbl : x.body.length = 0
  .have hbz : (x.body.length = 0) = True:=eq_true hbl
   simp [hz,hbz];refine ⟨_,_,gS _,?_⟩
   cases hs : zCa x.ret with
   | false =>
    simp only [hz,hs,Bool.false_and,Bool.and_false] at hw
    simp [T,hs,hw]
   | true =>
    simp;refine ⟨_,_,gY _,?_⟩
    cases hy : zBg x.name with
    | false =>
     simp only [hz,hs,hy,Bool.false_and,Bool.and_false] at hw
     simp [T,hy,hw]
    | true =>
     simp only [hz,hbl,hs,hy,decide_true,Bool.true_and] at hw;simp [T,hy];refine ⟨_,_,gF _ rfl rfl,?_⟩;simp [hw]
  .have hbz : (x.body.length = 0) = False:=eq_false hbl
   simp only [hz,hbl,decide_false,Bool.false_and,Bool.and_false] at hw;simp [T,hz,hbz,hw]
theorem zLD (x : It) (hsm : ItSm x) (hk : x.kind = 2) : WIC x:=by
 intro d S hd1 hd2
 obtain ⟨hn,hfs,hty,hbs,hex⟩:=hsm
 have gZ:=fun S=>zB4 x.result S
 have gS:=fun S=>zGA x.ret S
 have gY:=fun S=>zCl x.name (zAg hn) S
 have gN:=fun S=>zBP x.name (zAg hn) S
 have gT:=fun S=>zAk x.result hty (d - 1) S (by omega) (by omega)
 have gL:=fun S=>zNT x.ret S
 have gE:=fun S=>zAx x.ret hex (d - 1) S (by omega) (by omega)
 have gB:=fun S h=>zEw x.body (fun s hs=>zF9 s (hbs.2 s hs)) hbs.1 d (by omega) hd2 S 0 1 h
 have gF:=fun S h1 h2=>zEf 2 x hfs d (by omega) hd2 S 0 0 1 h1 h2
 have T : ∀ m : Int,(x.kind == m) = ((2 : Int) == m):=fun m=>by rw [hk]
 have hw : x.whole d = ((zBA x.result && (decide (x.body.length = 0) && (zCa x.ret && zBg x.name))) && z5 (zCJ 2 d) x.fields 6):=by
  unfold It.whole; rw [if_pos (by omega),hk]
 refine ADet.intro mixed Tryz.call46 Tryz.func46 rfl ?_;simp [Tryz.ntmps46];refine ⟨_,_,gZ _,?_⟩
 cases hz : zBA x.result with
 | false =>
  simp only [hz,Bool.false_and] at hw
  simp [T,hz,hw]
 | true =>
  by_cases hbl : x.body.length = 0
  .have hbz : (x.body.length = 0) = True:=eq_true hbl
   simp [hz,hbz];refine ⟨_,_,gS _,?_⟩
   cases hs : zCa x.ret with
   | false =>
    simp only [hz,hs,Bool.false_and,Bool.and_false] at hw
    simp [T,hs,hw]
   | true =>
    simp;refine ⟨_,_,gY _,?_⟩
    cases hy : zBg x.name with
    | false =>
     simp only [hz,hs,hy,Bool.false_and,Bool.and_false] at hw
     simp [T,hy,hw]
    | true =>
     simp only [hz,hbl,hs,hy,decide_true,Bool.true_and] at hw;simp [T,hy];refine ⟨_,_,gF _ rfl rfl,?_⟩;simp [hw]
  .have hbz : (x.body.length = 0) = False:=eq_false hbl
   simp only [hz,hbl,decide_false,Bool.false_and,Bool.and_false] at hw;simp [T,hz,hbz,hw]
theorem zLE (x : It) (hsm : ItSm x) (hk : x.kind = 3) : WIC x:=by
 intro d S hd1 hd2
 obtain ⟨hn,hfs,hty,hbs,hex⟩:=hsm
 have gZ:=fun S=>zB4 x.result S
 have gS:=fun S=>zGA x.ret S
 have gY:=fun S=>zCl x.name (zAg hn) S
 have gN:=fun S=>zBP x.name (zAg hn) S
 have gT:=fun S=>zAk x.result hty (d - 1) S (by omega) (by omega)
 have gL:=fun S=>zNT x.ret S
 have gE:=fun S=>zAx x.ret hex (d - 1) S (by omega) (by omega)
 have gB:=fun S h=>zEw x.body (fun s hs=>zF9 s (hbs.2 s hs)) hbs.1 d (by omega) hd2 S 0 1 h
 have gF:=fun S h1 h2=>zEf 3 x hfs d (by omega) hd2 S 0 0 1 h1 h2
 have T : ∀ m : Int,(x.kind == m) = ((3 : Int) == m):=fun m=>by rw [hk]
 have hw : x.whole d = (zAX x.name && (z5 (zCJ 3 d) x.fields 6 && (x.result.whole (d - 1) && (!zA6 x.ret.op && (x.ret.whole (d - 1) && x.body.all fun s=>s.whole (d - 1)))))):=by
  unfold It.whole; rw [if_neg (by omega),if_pos hk]
 refine ADet.intro mixed Tryz.call46 Tryz.func46 rfl ?_;simp [Tryz.ntmps46];refine ⟨_,_,gZ _,?_⟩
 cases hz : zBA x.result with
 | false =>
  simp [T,hz];refine ⟨_,_,gN _,?_⟩;rw [hw]
  generalize zAX x.name = c1
  cases c1 with
  | false=>simp
  | true =>
   simp;refine ⟨_,_,gF _ rfl rfl,?_⟩
   generalize z5 (zCJ 3 d) x.fields 6 = c2
   cases c2 with
   | false=>simp
   | true =>
    simp [wrd d (by omega)]
    refine ⟨_,_,gT _,?_⟩
    generalize x.result.whole (d - 1) = c3
    cases c3 with
    | false=>simp
    | true =>
     simp;refine ⟨_,_,gL _,?_⟩
     generalize zA6 x.ret.op = c4
     cases c4 with
     | true=>simp
     | false =>
      simp [wrd d (by omega)]
      refine ⟨_,_,gE _,?_⟩
      generalize x.ret.whole (d - 1) = c5
      cases c5 with
      | false=>simp
      | true =>
       simp;refine ⟨_,_,gB _ rfl,?_⟩
       simp
 | true =>
  by_cases hbl : x.body.length = 0
  .have hbz : (x.body.length = 0) = True:=eq_true hbl
   simp [hz,hbz];refine ⟨_,_,gS _,?_⟩
   cases hs : zCa x.ret with
   | false =>
    simp [T,hs];refine ⟨_,_,gN _,?_⟩;rw [hw]
    generalize zAX x.name = c1
    cases c1 with
    | false=>simp
    | true =>
     simp;refine ⟨_,_,gF _ rfl rfl,?_⟩
     generalize z5 (zCJ 3 d) x.fields 6 = c2
     cases c2 with
     | false=>simp
     | true =>
      simp [wrd d (by omega)]
      refine ⟨_,_,gT _,?_⟩
      generalize x.result.whole (d - 1) = c3
      cases c3 with
      | false=>simp
      | true =>
       simp;refine ⟨_,_,gL _,?_⟩
       generalize zA6 x.ret.op = c4
       cases c4 with
       | true=>simp
       | false =>
        simp [wrd d (by omega)]
        refine ⟨_,_,gE _,?_⟩
        generalize x.ret.whole (d - 1) = c5
        cases c5 with
        | false=>simp
        | true =>
         simp;refine ⟨_,_,gB _ rfl,?_⟩
         simp
   | true =>
    simp;refine ⟨_,_,gY _,?_⟩
    cases hy : zBg x.name with
    | false =>
     simp [T,hy];refine ⟨_,_,gN _,?_⟩;rw [hw]
     generalize zAX x.name = c1
     cases c1 with
     | false=>simp
     | true =>
      simp;refine ⟨_,_,gF _ rfl rfl,?_⟩
      generalize z5 (zCJ 3 d) x.fields 6 = c2
      cases c2 with
      | false=>simp
      | true =>
       simp [wrd d (by omega)]
       refine ⟨_,_,gT _,?_⟩
       generalize x.result.whole (d - 1) = c3
       cases c3 with
       | false=>simp
       | true =>
        simp;refine ⟨_,_,gL _,?_⟩
        generalize zA6 x.ret.op = c4
        cases c4 with
        | true=>simp
        | false =>
         simp [wrd d (by omega)]
         refine ⟨_,_,gE _,?_⟩
         generalize x.ret.whole (d - 1) = c5
         cases c5 with
         | false=>simp
         | true =>
          simp;refine ⟨_,_,gB _ rfl,?_⟩
          simp
    | true =>
     simp [T,hy];refine ⟨_,_,gN _,?_⟩;rw [hw]
     generalize zAX x.name = c1
     cases c1 with
     | false=>simp
     | true =>
      simp;refine ⟨_,_,gF _ rfl rfl,?_⟩
      generalize z5 (zCJ 3 d) x.fields 6 = c2
      cases c2 with
      | false=>simp
      | true =>
       simp [wrd d (by omega)]
       refine ⟨_,_,gT _,?_⟩
       generalize x.result.whole (d - 1) = c3
       cases c3 with
       | false=>simp
       | true =>
        simp;refine ⟨_,_,gL _,?_⟩
        generalize zA6 x.ret.op = c4
        cases c4 with
        | true=>simp
        | false =>
         simp [wrd d (by omega)]
         refine ⟨_,_,gE _,?_⟩
         generalize x.ret.whole (d - 1) = c5
         cases c5 with
         | false=>simp
         | true =>
          simp;refine ⟨_,_,gB _ rfl,?_⟩;simp
  .have hbz : (x.body.length = 0) = False:=eq_false hbl
   simp [T,hz,hbz];refine ⟨_,_,gN _,?_⟩;rw [hw]
   generalize zAX x.name = c1
   cases c1 with
   | false=>simp
   | true =>
    simp;refine ⟨_,_,gF _ rfl rfl,?_⟩
    generalize z5 (zCJ 3 d) x.fields 6 = c2
    cases c2 with
    | false=>simp
    | true =>
     simp [wrd d (by omega)]
     refine ⟨_,_,gT _,?_⟩
     generalize x.result.whole (d - 1) = c3
     cases c3 with
     | false=>simp
     | true =>
      simp;refine ⟨_,_,gL _,?_⟩
      generalize zA6 x.ret.op = c4
      cases c4 with
      | true=>simp
      | false =>
       simp [wrd d (by omega)]
       refine ⟨_,_,gE _,?_⟩
       generalize x.ret.whole (d - 1) = c5
       cases c5 with
       | false=>simp
       | true =>
        simp;refine ⟨_,_,gB _ rfl,?_⟩;simp
theorem zLF (x : It) (hsm : ItSm x) (hk : ¬ (x.kind = 1 \/ x.kind = 2 \/ x.kind = 3)) : WIC x:=by
 intro d S hd1 hd2
 obtain ⟨hn,hfs,hty,hbs,hex⟩:=hsm
 have gZ:=fun S=>zB4 x.result S
 have gS:=fun S=>zGA x.ret S
 have gY:=fun S=>zCl x.name (zAg hn) S
 have gN:=fun S=>zBP x.name (zAg hn) S
 have gT:=fun S=>zAk x.result hty (d - 1) S (by omega) (by omega)
 have gL:=fun S=>zNT x.ret S
 have gE:=fun S=>zAx x.ret hex (d - 1) S (by omega) (by omega)
 have gB:=fun S h=>zEw x.body (fun s hs=>zF9 s (hbs.2 s hs)) hbs.1 d (by omega) hd2 S 0 1 h
 have T1 : (x.kind == 1) = false:=by rw [beq_eq_false_iff_ne]; omega
 have T2 : (x.kind == 2) = false:=by rw [beq_eq_false_iff_ne]; omega
 have T3 : (x.kind == 3) = false:=by rw [beq_eq_false_iff_ne]; omega
 have hw : x.whole d = false:=by
  unfold It.whole; rw [if_neg (by omega),if_neg (by omega)]
 refine ADet.intro mixed Tryz.call46 Tryz.func46 rfl ?_;simp [Tryz.ntmps46];refine ⟨_,_,gZ _,?_⟩
 cases hz : zBA x.result with
 | false =>
  simp [T1,T2,T3,hz,hw]
 | true =>
  by_cases hbl : x.body.length = 0
  .have hbz : (x.body.length = 0) = True:=eq_true hbl
   simp [hz,hbz];refine ⟨_,_,gS _,?_⟩
   cases hs : zCa x.ret with
   | false =>
    simp [T1,T2,T3,hs,hw]
   | true =>
    simp;refine ⟨_,_,gY _,?_⟩
    cases hy : zBg x.name with
    | false =>
     simp [T1,T2,T3,hy,hw]
    | true =>
     simp [T1,T2,T3,hy,hw]
  .have hbz : (x.body.length = 0) = False:=eq_false hbl
   simp [T1,T2,T3,hz,hbz,hw]
theorem zNc (x : It) (hsm : ItSm x) : WIC x:=by
 by_cases h1 : x.kind = 1
 .exact zLC x hsm h1
 by_cases h2 : x.kind = 2
 .exact zLD x hsm h2
 by_cases h3 : x.kind = 3
 .exact zLE x hsm h3
 exact zLF x hsm (by omega)
theorem zVf (x : It) (hsm : ItSm x) (S : ASt) : ADet Tryz.prog 45 [itV x] S (B (x.whole 39)) S:=by
 refine ADet.intro mixed Tryz.call45 Tryz.func45 rfl ?_;simp [Tryz.ntmps45];refine ⟨_,_,zNc x hsm 39 _ (by omega) (by omega),?_⟩
 simp
theorem zCm (p : List It) (hsm : PrSm p) (S : ASt) : ADet Tryz.prog 14 [.agg [.p (prog p)]] S (B (z6 p)) S:=by
 have hal:=fun S=>zSp (fun x=>x.whole 39) p 30 (by omega) 45 [] [] S fun x hm L=>by
  simp only [AV.ups,List.nil_append];exact zVf x (hsm.2 x hm) _
 refine ADet.intro mixed Tryz.call14 Tryz.func14 rfl ?_;simp [Tryz.ntmps14,prog];refine ⟨_,_,hal _,?_⟩;simp [z6]
end Go.Proofs.YtlclonljdagpkaaGreatDoor
