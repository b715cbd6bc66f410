/- A part of the proof. The statement is proved in the claim's last text. -/
import Derived.Test.YtlclonljdagpkaaGreatDoorQMWh
set_option linter.unusedVariables false
set_option linter.unusedSimpArgs false
set_option maxRecDepth 100000
set_option maxHeartbeats 32000000
namespace Go.Proofs.YtlclonljdagpkaaGreatDoor
open Go.RowKit
attribute [local simp] List.replicate List.range List.range.loop resA zR retA zAi zAZ zY zAj zAb zQ rowA zf zT List.forall_mem_cons List.contains_cons List.contains_nil List.find? ze zd zS LCp LCl refL
theorem zXv (s : ByteArray) (S : ASt) : ADet Tryz.prog 216 [Sg s] S (B (sEq s emS)) S:=by
 refine ADet.intro mixed Tryz.call216 Tryz.func216 rfl ?_;simp [Tryz.ntmps216]
def fnN (op : Int) : Nat:=if op = 1 \/ op = 5 \/ op = 8 \/ op = 11 \/ op = 12 then 103 else if op = 2 then 102 else 216
def fnS (op : Int) : Nat:=if op = 8 then 102 else if op = 12 then 103 else 216
theorem fnNC (op : Int) (s : ByteArray) (h : s.size <= 20000) (S : ASt) : ADet Tryz.prog (fnN op) [Sg s] S (B (fmN op s)) S:=by
 unfold fnN fmN;split
 .exact zBP s (zAg h) S
 .split
  .exact zCl s (zAg h) S
  .exact zXv s S
theorem fnSC (op : Int) (s : ByteArray) (h : s.size <= 20000) (S : ASt) : ADet Tryz.prog (fnS op) [Sg s] S (B (fmS op s)) S:=by
 unfold fnS fmS;split
 .exact zCl s (zAg h) S
 .split
  .exact zBP s (zAg h) S
  .exact zXv s S
theorem zB4 (t : Ty) (S : ASt) : ADet Tryz.prog 99 [tyV t] S (B (zBA t)) S:=by
 refine ADet.intro mixed Tryz.call99 Tryz.func99 rfl ?_;unfold zBA
 cases hk : (t.kind == 0) with
 | false=>simp [Tryz.ntmps99,hk]
 | true =>
  cases hs : sEq t.name emS with
  | false=>simp [Tryz.ntmps99,hk,hs]
  | true=>simp [Tryz.ntmps99,hk,hs]
theorem zDC (s : St) (S : ASt) : ADet Tryz.prog 174 [stmV s] S (B (zEQ s.op s.int)) S:=by
 refine ADet.intro mixed Tryz.call174 Tryz.func174 rfl ?_;unfold zEQ
 by_cases hop : s.op = 12
 .have t : (s.op == 12) = true:=by rw [hop]; rfl
  by_cases h1 : 1 <= s.int
  .simp [Tryz.ntmps174,t,hop,h1]
  .simp [Tryz.ntmps174,t,hop,h1]
 .have t : (s.op == 12) = false:=by rw [beq_eq_false_iff_ne]; exact hop
  simp [Tryz.ntmps174,t,hop]
def fmV (op : Int) (n : Nat) : List AV:=[I (zh op),I (zo op n),B (zAB op),B (zk op),B (zAc op),B (zAd op),B (zAe op),B (zBj op),.fn (.func (fnN op)) [] [],.fn (.func (fnS op)) [] []]
theorem zDm (s : St) (S : ASt) : ADet Tryz.prog 173 [stmV s] S (.tup [.agg (fmV s.op s.names.length),B (fmOk s.op)]) S:=by
 refine ADet.intro mixed Tryz.call173 Tryz.func173 rfl ?_
 by_cases hop1 : s.op = 1
 .simp [Tryz.ntmps173,hop1,fmV,zh,zo,zAB,zk,zAc,zAd,zAe,zBj,fmOk,fnN,fnS]
 by_cases hop2 : s.op = 2
 .simp [Tryz.ntmps173,hop2,fmV,zh,zo,zAB,zk,zAc,zAd,zAe,zBj,fmOk,fnN,fnS]
 by_cases hop3 : s.op = 3
 .simp [Tryz.ntmps173,hop3,fmV,zh,zo,zAB,zk,zAc,zAd,zAe,zBj,fmOk,fnN,fnS]
 by_cases hop4 : s.op = 4
 .simp [Tryz.ntmps173,hop4,fmV,zh,zo,zAB,zk,zAc,zAd,zAe,zBj,fmOk,fnN,fnS]
 by_cases hop5 : s.op = 5
 .simp [Tryz.ntmps173,hop5,fmV,zh,zo,zAB,zk,zAc,zAd,zAe,zBj,fmOk,fnN,fnS]
 by_cases hop6 : s.op = 6
 .simp [Tryz.ntmps173,hop6,fmV,zh,zo,zAB,zk,zAc,zAd,zAe,zBj,fmOk,fnN,fnS]
 by_cases hop7 : s.op = 7
 .simp [Tryz.ntmps173,hop7,fmV,zh,zo,zAB,zk,zAc,zAd,zAe,zBj,fmOk,fnN,fnS]
 by_cases hop8 : s.op = 8
 .simp [Tryz.ntmps173,hop8,fmV,zh,zo,zAB,zk,zAc,zAd,zAe,zBj,fmOk,fnN,fnS]
 by_cases hop9 : s.op = 9
 .simp [Tryz.ntmps173,hop9,fmV,zh,zo,zAB,zk,zAc,zAd,zAe,zBj,fmOk,fnN,fnS]
 by_cases hop11 : s.op = 11
 .simp [Tryz.ntmps173,hop11,fmV,zh,zo,zAB,zk,zAc,zAd,zAe,zBj,fmOk,fnN,fnS]
 by_cases hop12 : s.op = 12
 .simp [Tryz.ntmps173,hop12,fmV,zh,zo,zAB,zk,zAc,zAd,zAe,zBj,fmOk,fnN,fnS]
 by_cases hop13 : s.op = 13
 .simp [Tryz.ntmps173,hop13,fmV,zh,zo,zAB,zk,zAc,zAd,zAe,zBj,fmOk,fnN,fnS]
 skip
 by_cases hop10 : s.op = 10
 .simp [Tryz.ntmps173,hop10]
  refine zA [(1,4)] (by kernel_rfl) (by kernel_rfl) ?_
  simp [hop10,fmV,zh,zo,zAB,zk,zAc,zAd,zAe,zBj,fmOk,fnN,fnS,strs]
 have ho : fmOk s.op = false:=by
  unfold fmOk;rw [Bool.and_eq_false_iff,decide_eq_false_iff_not,decide_eq_false_iff_not];omega
 simp [Tryz.ntmps173,hop1,hop2,hop3,hop4,hop5,hop6,hop7,hop8,hop9,hop10,hop11,hop12,hop13,fmV,zh,zo,zAB,zk,zAc,zAd,zAe,zBj,ho,fnN,fnS]
def WSC (s : St) : Prop:=∀ (d : Int) (S : ASt),-1 <= d -> d <= 1000 -> ADet Tryz.prog 108 [stmV s,I d] S (B (s.whole d)) S
theorem zK8 (x : St) (hx : WSC x) (d : Int) (h0 : -1 <= d - 1) (h1 : d <= 1000) (S : ASt) (n j : Nat) (hj : get2 S n j = some (.cells [I d] 3)) : ADet Tryz.prog 178 [stmV x,.ptr n j 0] S (B (x.whole (d - 1))) S:=by
 refine ADet.intro mixed Tryz.call178 Tryz.func178 rfl ?_;simp [Tryz.ntmps178,hj,wrd d (by omega)]
 refine ⟨_,_,hx (d - 1) _ (by omega) (by omega),?_⟩
 simp
theorem zA4 (l : List St) (hx : ∀ x ∈ l,WSC x) (hm : l.length <= 20000) (d : Int) (h0 : -1 <= d - 1) (h1 : d <= 1000) (S : ASt) (n j : Nat) (hj : get2 S n j = some (.cells [I d] 3)) :
  ADet Tryz.prog 106 [.p (.sl 15 (l.map St.enc)),I l.length,.fn (.func 178) [] [.ptr n j 0]] S (B (l.all fun x=>x.whole (d - 1))) S:=by
 have:=zMM (fun x=>x.whole (d - 1)) l l.length (by omega) 178 [] [.ptr n j 0] S fun x hm L=>by
  simp only [AV.ups,AV.up,List.nil_append];exact zK8 x (hx x hm) d h0 h1 (L :: S) (n + 1) j hj
 rw [zCi (Int.le_refl _)] at this;exact this
theorem zK9 (op : Int) (k : Nat) (x : Ex) (hx : WEC x) (d : Int) (h0 : -1 <= d - 1) (h1 : d <= 1000) (S : ASt) (n i j : Nat) (hi : get2 S n i = some (.cells (fmV op k) 213)) (hj : get2 S n j = some (.cells [I d] 3)) :
  ADet Tryz.prog 179 [exV x,.ptr n i 0,.ptr n j 0] S (B ((zBj op || !zA6 x.op) && x.whole (d - 1))) S:=by
 refine ADet.intro mixed Tryz.call179 Tryz.func179 rfl ?_
 have g:=fun S=>hx (d - 1) S (by omega) (by omega)
 cases hf : zBj op with
 | true =>
  simp [Tryz.ntmps179,hi,hj,fmV,hf,wrd d (by omega)]
  refine ⟨_,_,g _,?_⟩
  simp
 | false =>
  simp [Tryz.ntmps179,hi,hj,fmV,hf];refine ⟨_,_,zNT x _,?_⟩
  cases hl : zA6 x.op with
  | true=>simp [hl]
  | false =>
   simp [hl,hi,hj,fmV,hf,wrd d (by omega)]
   refine ⟨_,_,g _,?_⟩;simp
theorem zDD (op : Int) (k : Nat) (l : List Ex) (hx : ∀ x ∈ l,WEC x) (d : Int) (h0 : -1 <= d - 1) (h1 : d <= 1000) (S : ASt) (n i j : Nat) (hi : get2 S n i = some (.cells (fmV op k) 213)) (hj : get2 S n j = some (.cells [I d] 3)) :
  ADet Tryz.prog 171 [.p (.sl 8 (l.map Ex.enc)),I 6,.fn (.func 179) [] [.ptr n i 0,.ptr n j 0]] S (B (exsB op l d)) S :=
 zML (fun x=>(zBj op || !zA6 x.op) && x.whole (d - 1)) l 6 (by omega) 179 [] [.ptr n i 0,.ptr n j 0] S fun x hm L=>by
  simp only [AV.ups,AV.up,List.nil_append];exact zK9 op k x (hx x hm) d h0 h1 (L :: S) (n + 1) i j hi hj
theorem zLA (a : Ar) (hv : a.variant.size <= 20000) (hn : a.name.size <= 20000) (hm : a.body.length <= 20000) (hx : ∀ x ∈ a.body,WSC x) (d : Int) (h0 : -1 <= d - 1) (h1 : d <= 1000) (S : ASt) (n w j : Nat) (hw : get2 S n w = some (.cells [.fn (.func 178) [] [.ptr 0 j 0]] 161)) (hj : get2 S n j = some (.cells [I d] 3)) :
  ADet Tryz.prog 181 [arV a,.ptr n w 0] S (B (a.whole (d - 1))) S:=by
 refine ADet.intro mixed Tryz.call181 Tryz.func181 rfl ?_;unfold Ar.whole
 have g1:=fun S=>zCl a.variant (zAg hv) S
 have g2:=fun S=>zBP a.name (zAg hn) S
 have g3:=fun L=>zA4 a.body hx hm d h0 h1 (L :: S) (n + 1) j hj
 simp [Tryz.ntmps181];refine ⟨_,_,g1 _,?_⟩
 cases ht : zBg a.variant with
 | false=>simp [ht]
 | true =>
  cases he : sEq a.name emS with
  | true =>
   simp [ht,he,hw];refine ⟨_,_,g3 _,?_⟩
   simp
  | false =>
   simp [ht,he];refine ⟨_,_,g2 _,?_⟩
   cases hb : zAX a.name with
   | false=>simp [hb]
   | true =>
    simp [hb,hw];refine ⟨_,_,g3 _,?_⟩;simp
theorem zEe (l : List Ar) (hs : ∀ a ∈ l,a.variant.size <= 20000 /\ a.name.size <= 20000 /\ a.body.length <= 20000) (hx : ∀ a ∈ l,∀ x ∈ a.body,WSC x) (d : Int) (h0 : -1 <= d - 1) (h1 : d <= 1000) (S : ASt) (n w j : Nat) (hw : get2 S n w = some (.cells [.fn (.func 178) [] [.ptr 0 j 0]] 161)) (hj : get2 S n j = some (.cells [I d] 3)) :
  ADet Tryz.prog 180 [.p (.sl 3 (l.map Ar.enc)),I 6,.fn (.func 181) [] [.ptr n w 0]] S (B (z5 (fun a=>a.whole (d - 1)) l 6)) S :=
 zVc (fun a=>a.whole (d - 1)) l 6 (by omega) 181 [] [.ptr n w 0] S fun x hm L=>by
  simp only [AV.ups,AV.up,List.nil_append];exact zLA x (hs x hm).1 (hs x hm).2.1 (hs x hm).2.2 (hx x hm) d h0 h1 (L :: S) (n + 1) w j hw hj
end Go.Proofs.YtlclonljdagpkaaGreatDoor
