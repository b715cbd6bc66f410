/- A part of the proof. The statement is proved in the claim's last text. -/
import Derived.Test.YtlclonljdagpkaaGreatDoorQNPe
import Derived.Test.YtlclonljdagpkaaGreatDoorQNPd
set_option linter.unusedVariables false
set_option linter.unusedSimpArgs false
set_option maxRecDepth 100000
set_option maxHeartbeats 32000000
namespace Go.Proofs.YtlclonljdagpkaaGreatDoor
open Go.RowKit
theorem zI1 {s : St} {d : Int} (h : s.whole d = true) : (∀ x ∈ s.body,x.whole (d - 1) = true) /\ (∀ x ∈ s.els,x.whole (d - 1) = true) /\ ∀ a ∈ s.arms,∀ x ∈ a.body,x.whole (d - 1) = true:=by
 rw [zB] at h;simp only [Bool.and_eq_true] at h
 obtain ⟨_,_,_,_,_,_,h1,h2,h3⟩:=h
 refine ⟨fun x hx=>List.all_eq_true.1 h1 x hx,fun x hx=>List.all_eq_true.1 h2 x hx,fun a ha x hx=>?_⟩
 unfold z5 at h3;simp only [Bool.and_eq_true,decide_eq_true_eq] at h3;rw [List.take_of_length_le (by omega)] at h3
 have:=List.all_eq_true.1 h3.2 a ha
 unfold Ar.whole at this;simp only [Bool.and_eq_true] at this;exact List.all_eq_true.1 this.2.2 x hx
theorem zZh (p : List It) (hp : ∀ x ∈ p,x.fields.length <= 20000) (s : St) : ∀ d : Int,s.whole d = true -> StmC p s:=by
 refine St.ind (p:=fun s=>∀ d : Int,s.whole d = true -> StmC p s) ?_ s
 intro s b1 b2 b3 d h
 obtain ⟨w1,w2,w3⟩:=zI1 h
 have i1 : ∀ x ∈ s.body,StmC p x:=fun x hx=>b1 x hx _ (w1 x hx)
 have i2 : ∀ x ∈ s.els,StmC p x:=fun x hx=>b2 x hx _ (w2 x hx)
 have i3 : ∀ a ∈ s.arms,∀ x ∈ a.body,StmC p x:=fun a ha x hx=>b3 a ha x hx _ (w3 a ha x hx)
 by_cases o1 : s.op = 1
 .exact zVw p hp s d h i1 i2 i3 o1
 by_cases o2 : s.op = 2
 .exact zVx p hp s d h i1 i2 i3 o2
 by_cases o3 : s.op = 3
 .exact zVq p hp s d h i1 i2 i3 o3
 by_cases o5 : s.op = 5
 .exact zVr p hp s d h i1 i2 i3 o5
 by_cases o12 : s.op = 12
 .exact zS1 p hp s d h i1 i2 i3 o12
 by_cases o8 : s.op = 8
 .exact zVs p hp s d h i1 i2 i3 o8
 by_cases o10 : s.op = 10
 .exact zSz p hp s d h i1 i2 i3 o10
 by_cases o9 : s.op = 9
 .exact zVu p hp s d h i1 i2 i3 o9
 by_cases o11 : s.op = 11
 .exact zS0 p hp s d h i1 i2 i3 o11
 exact zVv p hp s d h i1 i2 i3 o1 o2 o3 o5 o12 o8 o10 o9 o11
end Go.Proofs.YtlclonljdagpkaaGreatDoor
namespace Go.Proofs.YtlclonljdagpkaaGreatDoor
open Go.RowKit
attribute [local simp] List.replicate List.range List.range.loop resA zR retA AV.cuts AV.cut AObj.cut trim wkR wkT wkL wkN wkNR wkNL wkM wkMR wkML
def zG6 (p : List It) : List Bool:=p.mapIdx fun q x=>zAO p q x
theorem zCp (p : List It) : (zG6 p).length = p.length:=by unfold zG6; simp
theorem zID (p : List It) (q : Nat) (h : q < p.length) : (zG6 p)[q]'(by rw [zCp]; exact h) = zAO p q p[q]:=by unfold zG6; simp
def bolE (b : Bool) : List PV:=[.v (.bool b)]
theorem zVy (a b : List It) : itE (a ++ b) = itE a ++ itE b:=by unfold itE; rw [List.map_append]
theorem zNk (p : List It) (q : Nat) (h : q < p.length) (fn : Bool) (hk : decide (p[q].kind = 3) = fn) (ha : zAO p q p[q] = false) : itE (zAC p fn (q + 1)) = itE (zAC p fn q) ++ [(.string p[q].name,itV p[q])]:=by
 rw [zAC,List.getElem?_eq_getElem h];simp only;rw [if_pos (by simp [hk,ha]),zVy]
 rfl
theorem zQL (p : List It) (q : Nat) (h : q < p.length) (fn : Bool) (hk : decide (p[q].kind = 3) = (!fn) \/ zAO p q p[q] = true) : zAC p fn (q + 1) = zAC p fn q:=by
 rw [zAC,List.getElem?_eq_getElem h];simp only;rw [if_neg]
 rcases hk with hk | hk
 .rw [hk]; cases fn <;> simp
 .rw [hk]; simp
theorem zVz (p : List It) (hp40 : p.length <= 20000) (o : AObj) (R : ASt) : ADet Tryz.prog 56 [.ptr 0 3 0,.agg [.p (prog p)]] ([o,.map [],.map [],.cells [.mp 0 1,.mp 0 2,nilS] 115] :: R) (.p (.sl 1 ((zG6 p).map bolE))) ([o,.map (itE (zAC p false p.length)),.map (itE (zAC p true p.length)),.cells [.mp 0 1,.mp 0 2,nilS] 115] :: R):=by
 refine ADet.okA Tryz.call56 1 0 rfl rfl fun hok=>?_
 have hlen : p.length <= maxLen:=okl hok
 obtain ⟨al,hale⟩ : ∃ al,al = (zG6 p).map bolE:=⟨_,rfl⟩
 have hal : al.length = p.length:=by rw [hale,List.length_map,zCp]
 have halt : ∀ q (h : q < p.length),al.take (q + 1) = al.take q ++ [[.v (.bool (zAO p q p[q]))]]:=fun q h=>by
  have this : al[q]? = some [.v (.bool (zAO p q p[q]))]:=by
   rw [hale,List.getElem?_map,List.getElem?_eq_getElem (by rw [zCp]; exact h),zID p q h]
   rfl
  rw [List.take_succ_eq_append_getElem (by rw [hal]; exact h),(List.getElem?_eq_some_iff.1 this).2]
 rw [<- hale];clear hale;refine ADet.intro mixed Tryz.call56 Tryz.func56 rfl ?_;simp [Tryz.ntmps56,prog];refine zAR 4 1 (by decide) [.cells [.p (.sl 16 (p.map It.enc))] 24] (fun q : Nat=>q <= p.length) (fun q=>([.ptr 1 3 0,.any,.any,.ptr 0 0 0,.any,.osl 1 (al.take q) 0 1,.any,.any,.any,.any,.any,.any,.p (.sl 16 (p.map It.enc)),I p.length,I q] ++ List.replicate 33 .any)) (fun q=>[.cells [.p (.sl 16 (p.map It.enc))] 24,.tok 4 1 q] :: [o,.map (itE (zAC p false q)),.map (itE (zAC p true q)),.cells [.mp 0 1,.mp 0 2,nilS] 115] :: R) (fun q=>p.length - q) 0 (Nat.zero_le _) ?_ ?_ ?_ ?_
 .simp
 .simp
 .simp [zAC,itE]
 intro q hq
 by_cases hlt : q < p.length
 .have hlt' : (q : Int) < (p.length : Int):=by omega
  have hw:=zD hlt
  have hmu : p.length - (q + 1) < p.length - q:=by omega
  have htk:=halt q hlt
  have hfa:=zJ5 p q hlt
  have hy:=zNk p q hlt
  have hn:=zQL p q hlt
  have hfe:=fun fn=>zGB p[q].name (zAC p fn q) 0
  have htl : (al.take q).length = q:=by rw [List.length_take,hal]; omega
  have hle : q <= 4294967295:=by omega
  generalize hx : p[q] = x at *
  generalize al.take q = rc at *
  generalize ha : zAO p q x = a at *
  by_cases h3 : x.kind = 3
  .have h3' : decide (x.kind = 3) = true:=decide_eq_true h3
   rw [h3'] at hfa
   obtain ⟨j,hj⟩:=hfe true
   have hn1:=hn false (.inl (by simp [h3]))
   cases a with
   | true =>
    have hn2:=hn true (.inr rfl)
    obtain ⟨y,hy2⟩:=Option.isSome_iff_exists.1 hfa
    rw [hy2,Option.map_some] at hj;simp [hlt,hlt',hx,It.enc,h3,hj,htl,hle]
    exact ⟨q + 1,hlt,hmu,⟨htk.symm,hw⟩,⟨rfl,by rw [hn1],by rw [hn2]⟩⟩
   | false =>
    have hy1:=hy true h3' rfl
    have hy2:=Option.isSome_eq_false_iff.1 hfa
    rw [Option.isNone_iff_eq_none] at hy2;rw [hy2,Option.map_none] at hj;simp [hlt,hlt',hx,It.enc,h3,hj,htl,hle];exact ⟨q + 1,hlt,hmu,⟨htk.symm,hw⟩,⟨rfl,by rw [hn1],by rw [hy1,<- h3]⟩⟩
  .have h3' : decide (x.kind = 3) = false:=decide_eq_false h3
   have h3b : (x.kind == 3) = false:=by simpa using h3
   rw [h3'] at hfa
   obtain ⟨j,hj⟩:=hfe false
   have hn1:=hn true (.inl (by simp [h3]))
   cases a with
   | true =>
    have hn2:=hn false (.inr rfl)
    obtain ⟨y,hy2⟩:=Option.isSome_iff_exists.1 hfa
    rw [hy2,Option.map_some] at hj;simp [hlt,hlt',hx,It.enc,h3,h3b,hj,htl,hle]
    exact ⟨q + 1,hlt,hmu,⟨htk.symm,hw⟩,⟨rfl,by rw [hn2],by rw [hn1]⟩⟩
   | false =>
    have hy1:=hy false h3' rfl
    have hy2:=Option.isSome_eq_false_iff.1 hfa
    rw [Option.isNone_iff_eq_none] at hy2;rw [hy2,Option.map_none] at hj;simp [hlt,hlt',hx,It.enc,h3,h3b,hj,htl,hle];exact ⟨q + 1,hlt,hmu,⟨htk.symm,hw⟩,⟨rfl,by rw [hy1],by rw [hn1]⟩⟩
 .have hlt' : ¬ (q : Int) < (p.length : Int):=by omega
  have hq2 : q = p.length:=by omega
  subst hq2
  have hta : al.take p.length = al:=List.take_of_length_le (by rw [hal]; exact Nat.le_refl _)
  simp [hta]
theorem zG7 (p : List It) (pos : Int) : ∀ (a b : List Fi) (met : List ByteArray),zAS p pos met (a ++ b) = zAS p pos met a ++ zAS p pos (met ++ a.map Fi.name) b
 | [],b,met=>by simp [zAS]
 | f :: a,b,met=>by simp [zAS,zG7 p pos a b,List.append_assoc]
def Fi.nd1 (f : Fi) : Nat:=1 + f.type.nd
theorem zDG (p : List It) (pos : Int) : ∀ (l : List Fi) (met : List ByteArray),(zAS p pos met l).length <= (l.map Fi.nd1).sum
 | [],met=>Nat.le_refl _
 | f :: l,met=>by
  have h1:=zq (decide (cntN met f.name = 0)) 60 pos
  have h2:=zD8 p pos f.type
  have h3:=zDG p pos l (met ++ [f.name])
  simp only [zAS,List.length_append,List.map_cons,List.sum_cons,Fi.nd1];omega
theorem zZi (p : List It) (l : List Flt) (hl : l.length + 1 <= 4294967296) : KC p 64 [] l (l ++ zI (zFt p zFu) 62 0):=fun S d h=>by
 have ho:=h.l
 have hf:=h.f
 simp only [nlO] at ho
 obtain ⟨j,hj⟩:=zMP p zFu
 have hwr:=fun b L=>(zDS p b 62 0 l hl).at h L
 rw [zCo h] at hwr;unfold zFt;refine ADet.intro mixed Tryz.call64 Tryz.func64 rfl ?_
 cases hfi : fnIt p zFu with
 | none =>
  rw [hfi,Option.map_none] at hj;unfold zFu at hj;simp [Tryz.ntmps64,ho,hf,hj];refine ⟨_,_,hwr false _,?_⟩
  simp
 | some x =>
  rw [hfi,Option.map_some] at hj;unfold zFu at hj
  have hkb : (x.result.kind == 1) = decide (x.result.kind = 1):=by rw [Bool.eq_iff_iff]; simp
  by_cases h0 : x.fields = []
  .simp [Tryz.ntmps64,ho,hf,hj,h0,hkb]
   refine ⟨_,_,hwr (decide (x.result.kind = 1)) _,?_⟩;simp [h0]
  .simp [Tryz.ntmps64,ho,hf,hj,h0]
   refine ⟨_,_,hwr false _,?_⟩;simp [h0]
theorem zV0 (p : List It) (x : It) (l : List Flt) (hl : l.length + (x.fields.map Fi.nd1).sum <= 4000000000) (hx : x.fields.length <= 20000) : KC p 58 [itV x] l (l ++ zAS p x.pos [] x.fields):=fun S d h=>by
 have hlen : x.fields.length <= maxLen:=by unfold maxLen; omega
 have hself:=zCo h
 obtain ⟨F,hF⟩ : ∃ F : Nat -> List Flt,F = fun q=>l ++ zAS p x.pos [] (x.fields.take q):=⟨_,rfl⟩
 have hF0 : F 0 = l:=by rw [hF]; simp [zAS]
 have hFn : F x.fields.length = l ++ zAS p x.pos [] x.fields:=by rw [hF]; simp
 have hFs : ∀ q (hq : q < x.fields.length),F (q + 1) = (F q ++ zI (decide (cntN ((x.fields.take q).map Fi.name) x.fields[q].name = 0)) 60 x.pos) ++ x.fields[q].type.nm p x.pos:=fun q hq=>by
  rw [hF];simp only [List.take_succ_eq_append_getElem hq,zG7];simp [zAS]
 have hFb : ∀ q (hq : q < x.fields.length),(F q).length + (1 + x.fields[q].type.nd) <= 4000000000:=fun q hq=>by
  have e1:=zBM Fi.nd1 hq
  have e2:=zDG p x.pos (x.fields.take q) []
  rw [hF];simp only [List.length_append];unfold Fi.nd1 at *;omega
 clear hF;rw [<- hFn];refine ADet.intro mixed Tryz.call58 Tryz.func58 rfl ?_;simp [Tryz.ntmps58];refine zE (fun q : Nat=>q <= x.fields.length) (fun q=>([.ptr (d + 1) 3 0,.any,.any,.ptr 0 0 0,.mp 0 1,.any,.any,.any,.any,.p (.sl 4 (x.fields.map Fi.enc)),I x.fields.length,I q] ++ List.replicate 24 .any)) (fun q=>[.cells (itU x) 42,.map (ctE (metC ((x.fields.take q).map Fi.name)))] :: updK S d (F q)) (fun q=>x.fields.length - q) 0 (Nat.zero_le _) ?_ ?_ ?_
 .simp
 .simp [metC,ctE,hF0,hself]
 intro q hq
 by_cases hlt : q < x.fields.length
 .have hlt' : (q : Int) < (x.fields.length : Int):=by omega
  have hw:=zD hlt hlen
  have hmu : x.fields.length - (q + 1) < x.fields.length - q:=by omega
  have hF1:=hFs q hlt
  have hFq:=hFb q hlt
  have htk : (x.fields.take (q + 1)).map Fi.name = (x.fields.take q).map Fi.name ++ [x.fields[q].name]:=by rw [List.take_succ_eq_append_getElem hlt,List.map_append]; rfl
  have hcn:=zIy ((x.fields.take q).map Fi.name) x.fields[q].name
  have hcl:=zQF ((x.fields.take q).map Fi.name) x.fields[q].name
  have hms:=zKD ((x.fields.take q).map Fi.name) x.fields[q].name
  rw [List.length_map,List.length_take,Nat.min_eq_left hq] at hcl
  have hfd:=zEE x.fields[q].name (metC ((x.fields.take q).map Fi.name)) 0
  have hfd2:=zEE x.fields[q].name (zE3 (metC ((x.fields.take q).map Fi.name)) x.fields[q].name) 0
  rw [hcn] at hfd;rw [zFS,hcn] at hfd2;simp only [sEq_self,if_true] at hfd2;rw [<- hms,<- htk] at hfd2
  generalize hn : cntN ((x.fields.take q).map Fi.name) x.fields[q].name = n at *
  have hw1 : IntKind.i64.wrap ((n : Int) + 1) = ((n + 1 : Nat) : Int):=zD (n:=4294967296) (by omega) (by unfold maxLen; omega)
  rw [<- htk] at hms
  have hm1 : ∃ j1,zAU .string (.string x.fields[q].name) (ctE (metC ((x.fields.take (q + 1)).map Fi.name))) 0 = some (some (j1,I (n + 1 : Nat))):=by
   rcases hfd2 with ⟨h1,_,_⟩ | ⟨j,h1,_⟩
   .omega
   .exact ⟨_,h1⟩
  obtain ⟨j1,hm1⟩:=hm1
  clear hfd2;rw [<- hms] at hfd
  have hwr:=fun b L=>(zDS p b 60 x.pos (F q) (by omega)).at h L
  have hkd:=fun b L=>(zVk p x.pos x.fields[q].type (F q ++ zI b 60 x.pos) (by have:=zq b 60 x.pos; simp only [List.length_append]; omega)).at h L
  generalize hm1e : metC ((x.fields.take (q + 1)).map Fi.name) = m1 at *
  generalize hmm : metC ((x.fields.take q).map Fi.name) = m0 at *
  generalize hf : x.fields[q] = f at *
  have hct:=zIC 2 m1
  rcases hfd with ⟨h1,h2,h3⟩ | ⟨j,h2,h3⟩
  .have h1' : n = 0:=by omega
   have hw0 : IntKind.i64.wrap 1 = 1:=rfl
   subst h1'
   have h3' : ctE m0 ++ [(.string f.name,I 1)] = ctE m1:=h3.symm
   have hm1 : zAU .string (.string f.name) (ctE m1) 0 = some (some (j1,I 1)):=by simpa using hm1
   simp [hlt,hlt',hf,Fi.enc,h2,h3',hm1,hw0];refine ⟨_,_,hwr true _,?_⟩;simp;refine ⟨_,_,hkd true _,?_⟩;simp;exact ⟨q + 1,hlt,hmu,hw,by rw [hct,<- List.map_take,hm1e],by rw [hF1,List.append_assoc] <;> rfl⟩
  .have h3' : (ctE m0).set j (.string f.name,I ((n : Int) + 1)) = ctE m1:=h3.symm
   have hb : ((n : Int) + 1 == 1) = decide (n = 0):=by rw [Bool.eq_iff_iff]; simp; omega
   have hw2 : IntKind.i64.wrap ((n : Int) + 1) = (n : Int) + 1:=hw1
   have hm1 : zAU .string (.string f.name) (ctE m1) 0 = some (some (j1,I ((n : Int) + 1))):=hm1
   simp [hlt,hlt',hf,Fi.enc,h2,h3',hm1,hw2,hb];refine ⟨_,_,hwr (decide (n = 0)) _,?_⟩;simp;refine ⟨_,_,hkd (decide (n = 0)) _,?_⟩;simp;exact ⟨q + 1,hlt,hmu,hw,by rw [hct,<- List.map_take,hm1e],by rw [hF1,List.append_assoc] <;> rfl⟩
 .have hlt' : ¬ (q : Int) < (x.fields.length : Int):=by omega
  have hq2 : q = x.fields.length:=by omega
  subst hq2;simp
end Go.Proofs.YtlclonljdagpkaaGreatDoor
namespace Go.Proofs.YtlclonljdagpkaaGreatDoor
open Go.RowKit
attribute [local simp] List.replicate List.range List.range.loop resA zR retA
def lev (p : List It) (fl : List Flt) (ext : List AObj) : List AObj:=.cells [.p (.sl 16 (p.map It.enc))] 24 :: .map (itE (zAC p false p.length)) :: .map (itE (zAC p true p.length)) :: nlO fl.length :: rwO fl :: ext
theorem zZj (p : List It) (fl : List Flt) (ext : List AObj) (R : ASt) : Lk p (lev p fl ext :: R) 0 fl:=⟨rfl,rfl,rfl,rfl⟩
def c0F : Cf:=⟨0,0,7,6⟩
def levF (p : List It) (x : It) (σ : Nf) (b : List AObj) : List AObj:=lev p σ.fl (.cells (itU x) 42 :: mdO σ.made :: fnO c0F σ :: b)
theorem zUG (p : List It) (x : It) (σ : Nf) (b : List AObj) (R : ASt) : NAt p (levF p x σ b :: R) c0F σ:=⟨⟨rfl,rfl,rfl,rfl⟩,rfl,rfl,fun _=>by unfold c0F; simp,fun _=>by unfold c0F; simp,by unfold c0F; simp⟩
theorem zI2 (p : List It) (x : It) (σ τ : Nf) (b : List AObj) (R : ASt) : updF (levF p x σ b :: R) c0F τ = levF p x τ b :: R:=rfl
theorem KC.lev {p : List It} {F : Nat} {args : List AV} {l l' : List Flt} (h : KC p F args l l') (ext : List AObj) (R : ASt) : ADet Tryz.prog F (.ptr 0 3 0 :: args) (lev p l ext :: R) .un (lev p l' ext :: R):=h _ 0 (zZj p l ext R)
theorem endK (p : List It) (x : It) (σ : Nf) (b : List AObj) (d : Int) (hw : x.ret.whole d = true) (hl : σ.fl.length + x.ret.nd <= 4000000000) (L : List AObj) (R : ASt) : ADet Tryz.prog 62 [.ptr 1 8 0,.ptr 1 5 0] (L :: levF p x σ (.cells [.ptr 0 7 0] 120 :: b) :: R) .un (L :: levF p x (σ.add (x.ret.nm p σ.made)) (.cells [.ptr 0 7 0] 120 :: b) :: R):=by
 have hx:=zG4 p x.ret d σ hw hl ([] :: L :: levF p x σ (.cells [.ptr 0 7 0] 120 :: b) :: R) c0F.up.up (((zUG p x σ _ R).cons L).cons [])
 rw [zAT,zAT,zI2] at hx;refine ADet.intro mixed Tryz.call62 Tryz.func62 rfl ?_
 have g1 : get2 (levF p x σ (.cells [.ptr 0 7 0] 120 :: b) :: R) 0 8 = some (.cells [.ptr 0 7 0] 120):=rfl
 have g2 : get2 (levF p x σ (.cells [.ptr 0 7 0] 120 :: b) :: R) 0 5 = some (.cells (itU x) 42):=rfl
 generalize levF p x σ (.cells [.ptr 0 7 0] 120 :: b) = LL at *
 simp [Tryz.ntmps62,g1,g2];refine ⟨_,_,hx,?_⟩;simp
end Go.Proofs.YtlclonljdagpkaaGreatDoor
