/- A part of the proof. The statement is proved in the claim's last text. -/
import Derived.Test.YtlclonljdagpkaaGreatDoorQMNo
import Derived.Test.YtlclonljdagpkaaGreatDoorQMNp
import Derived.Test.YtlclonljdagpkaaGreatDoorQMLt
set_option linter.unusedVariables false
set_option linter.unusedSimpArgs false
set_option maxRecDepth 100000
set_option maxHeartbeats 32000000
namespace Go.Proofs.YtlclonljdagpkaaGreatDoor
open Go.RowKit
attribute [local simp] List.replicate List.range List.range.loop resA zR retA AV.cuts AV.cut AObj.cut trim wkR wkT wkL wkN wkNR wkNL wkM wkMR wkML zAi zAZ zY zAj zAb zQ rowA zf zT List.forall_mem_cons List.contains_cons List.contains_nil List.find? ze zd zS LCp LCl refL
def KC (p : List It) (F : Nat) (args : List AV) (l l' : List Flt) : Prop:=∀ (S : ASt) (d : Nat),Lk p S d l -> ADet Tryz.prog F (.ptr d 3 0 :: args) S .un (updK S d l')
theorem KC.at {p : List It} {F : Nat} {args : List AV} {l l1 l2 : List Flt} (hw : KC p F args l1 l2) {S : ASt} {d : Nat} (h : Lk p S d l) (L : List AObj) : ADet Tryz.prog F (.ptr (d + 1) 3 0 :: args) (L :: updK S d l1) .un (L :: updK S d l2):=by
 have:=hw _ _ ((h.updK l1).cons L)
 rw [zEz,zJ6 h] at this;exact this
theorem KC.intro {p : List It} {F : Nat} {args : List AV} {l l' : List Flt} (hw : ∀ (S : ASt) (d : Nat),Lk p S d l -> ADet Tryz.prog F (.ptr d 3 0 :: args) (updK S d l) .un (updK S d l')) : KC p F args l l':=fun S d h=>by
 have:=hw S d h
 rw [zCo h] at this;exact this
theorem zDS (p : List It) (holds : Bool) (e a : Int) (l : List Flt) (hl : l.length + 1 <= 4294967296) : KC p 57 [B holds,I e,I a] l (l ++ zI holds e a):=fun S d h=>by
 have ho:=h.l
 have ht:=h.r
 have hs:=zCo h
 unfold zI;refine ADet.intro mixed Tryz.call57 Tryz.func57 rfl ?_
 cases holds with
 | true=>simp [Tryz.ntmps57,hs]
 | false =>
  simp only [nlO,rwO] at ho ht
  have n1:=fun (T : ASt) o=>zDg T d (i:=4) (j:=3) o (by omega)
  have n2:=fun (T : ASt) o=>zDg T d (i:=3) (j:=4) o (by omega)
  simp [Tryz.ntmps57,ho,ht,n1,n2,hl,updK,nlO,rwO,rowC,fltE]
abbrev itZ1 : AV:=.agg [U 0,Sg emS,nilS,U 0,Sg emS,nilS,nilS,U 0,I 0,Sg emS,Sg emS,Sg emS,nilS,nilS,I 0,I 0]
def zNj (p : List It) (k : Int) (s : ByteArray) : AV:=match zAM p s with | some x=>.tup [itV x,B (decide (x.kind = k))] | none=>.tup [itZ1,B false]
theorem zIB (p : List It) (k : Int) (s : ByteArray) (l : List Flt) (S : ASt) (d : Nat) (h : Lk p S d l) : ADet Tryz.prog 187 [.ptr d 3 0,U k,Sg s] S (zNj p k s) S:=by
 have ho:=h.l
 have ht:=h.t
 simp only [nlO] at ho
 obtain ⟨j,hj⟩:=zFP p s
 unfold zNj;refine ADet.intro mixed Tryz.call187 Tryz.func187 rfl ?_
 cases hf : zAM p s with
 | none =>
  rw [hf] at hj;simp only [Option.map_none] at hj;simp [Tryz.ntmps187,ho,ht,hj];refine zA [(4,8)] (by kernel_rfl) (by kernel_rfl) ?_
  simp
 | some x =>
  rw [hf] at hj;simp only [Option.map_some] at hj;simp [Tryz.ntmps187,ho,ht,hj];refine zA [(4,8)] (by kernel_rfl) (by kernel_rfl) ?_
  by_cases hk : x.kind = k
  .simp [hk]
  .have hk' : (x.kind == k) = false:=by simpa using hk
   simp [hk,hk']
theorem zBM {α : Type} (g : α -> Nat) {l : List α} {q : Nat} (h : q < l.length) : ((l.take q).map g).sum + g l[q] <= (l.map g).sum:=by
 have e : (l.map g).sum = ((l.take q).map g).sum + ((l.drop q).map g).sum:=by
  rw [<- List.sum_append,<- List.map_append,List.take_append_drop]
 rw [e,List.drop_eq_getElem_cons h,List.map_cons,List.sum_cons];omega
theorem zVk (p : List It) (pos : Int) : ∀ (t : Ty) (l : List Flt),l.length + t.nd <= 4000000000 -> KC p 59 [tyV t,I pos] l (l ++ t.nm p pos):=by
 refine Ty.ind fun t ih l hl=>KC.intro fun S d h=>?_
 refine ADet.okA Tryz.call59 1 2 rfl rfl fun hok=>?_
 have hlen:=okl hok
 have hnd:=tyNd t
 obtain ⟨W,hW⟩ : ∃ W,W = l ++ (if t.kind = 4 then zI (zAM p t.name).isSome 60 pos else []):=⟨_,rfl⟩
 obtain ⟨F,hF⟩ : ∃ F : Nat -> List Flt,F = fun q=>W ++ (t.args.take q).flatMap (Ty.nm p pos):=⟨_,rfl⟩
 have hF0 : F 0 = W:=by rw [hF]; simp
 have hFn : F t.args.length = l ++ t.nm p pos:=by rw [hF,hW,tyNm]; simp
 have hFs : ∀ q (h : q < t.args.length),F (q + 1) = F q ++ t.args[q].nm p pos:=fun q h=>by rw [hF]; simp only [List.take_succ_eq_append_getElem h,List.flatMap_append,List.append_assoc]; simp
 have hWl : W.length <= l.length + 1:=by
  rw [hW,List.length_append]
  have : (if t.kind = 4 then zI (zAM p t.name).isSome 60 pos else []).length <= 1:=by
   split
   .exact zq _ _ _
   .simp
  omega
 have hFb : ∀ q (h : q < t.args.length),(F q).length + t.args[q].nd <= 4000000000:=fun q h=>by
  have e1:=zBM Ty.nd h
  have e2:=zEy (Ty.nm p pos) Ty.nd (t.args.take q) fun x _=>zD8 p pos x
  rw [hF];simp only [List.length_append];omega
 clear hF;rw [<- hFn]
 have ho:=h.l
 have ht:=h.t
 simp only [nlO] at ho
 have hs:=zCo h
 obtain ⟨j,hj⟩:=zFP p t.name
 have ho:=h.l
 have ht:=h.t
 simp only [nlO] at ho
 have hs:=zCo h
 obtain ⟨j,hj⟩:=zFP p t.name
 refine ADet.intro mixed Tryz.call59 Tryz.func59 rfl ?_;simp [Tryz.ntmps59,hs]
 by_cases h4 : t.kind = 4
 .rw [if_pos h4] at hW
  have hwr:=fun b L=>(zDS p b 60 pos l (by omega)).at h L
  rw [hs] at hwr
  cases hf : zAM p t.name with
  | none =>
   rw [hf] at hj hW;simp only [Option.map_none] at hj
   have hW2 : l ++ zI false 60 pos = W:=hW.symm
   simp [h4];refine zA [(3,10),(5,10),(6,10)] (by kernel_rfl) (by kernel_rfl) ?_
   simp [ho,ht,hj];refine ⟨_,_,hwr false _,?_⟩;simp;refine zE (fun q : Nat=>q <= t.args.length) (fun q=>([.ptr (d + 1) 3 0,.any,I pos] ++ (List.replicate 25 .any ++ [.p (.sl 3 (t.args.map Ty.enc)),I t.args.length,I q,.any,.any,.any,.any,.any,.any,.any,.any]))) (fun q=>[.cells [U t.kind,Sg t.name,.p (.sl 3 (t.args.map Ty.enc))] 33,.dead] :: updK S d (F q)) (fun q=>t.args.length - q) 0 (Nat.zero_le _) ?_ ?_ ?_
   .simp
   .simp [hF0,hW2,h4]
   intro q hq1
   by_cases hlt : q < t.args.length
   .have hlt' : (q : Int) < (t.args.length : Int):=by omega
    have hw:=zD hlt
    have hx:=fun L=>(ih _ (List.getElem_mem hlt) (F q) (hFb q hlt)).at h L
    rw [<- hFs q hlt] at hx
    have hmu : t.args.length - (q + 1) < t.args.length - q:=by omega
    generalize he : t.args[q] = x at *
    simp [hlt,hlt',he,zC4];refine ⟨_,_,hx _,?_⟩;simp;exact ⟨q + 1,hlt,hmu,hw,rfl⟩
   .have hlt' : ¬ (q : Int) < (t.args.length : Int):=by omega
    have hq2 : q = t.args.length:=by omega
    subst hq2
    simp
  | some x =>
   rw [hf] at hj hW;simp only [Option.map_some] at hj
   have hW2 : l ++ zI true 60 pos = W:=hW.symm
   simp [h4];refine zA [(3,10),(5,10),(6,10)] (by kernel_rfl) (by kernel_rfl) ?_
   simp [ho,ht,hj];refine ⟨_,_,hwr true _,?_⟩;simp;refine zE (fun q : Nat=>q <= t.args.length) (fun q=>([.ptr (d + 1) 3 0,.any,I pos] ++ (List.replicate 25 .any ++ [.p (.sl 3 (t.args.map Ty.enc)),I t.args.length,I q,.any,.any,.any,.any,.any,.any,.any,.any]))) (fun q=>[.cells [U t.kind,Sg t.name,.p (.sl 3 (t.args.map Ty.enc))] 33,.dead] :: updK S d (F q)) (fun q=>t.args.length - q) 0 (Nat.zero_le _) ?_ ?_ ?_
   .simp
   .simp [hF0,hW2,h4]
   intro q hq1
   by_cases hlt : q < t.args.length
   .have hlt' : (q : Int) < (t.args.length : Int):=by omega
    have hw:=zD hlt
    have hx:=fun L=>(ih _ (List.getElem_mem hlt) (F q) (hFb q hlt)).at h L
    rw [<- hFs q hlt] at hx
    have hmu : t.args.length - (q + 1) < t.args.length - q:=by omega
    generalize he : t.args[q] = x at *
    simp [hlt,hlt',he,zC4];refine ⟨_,_,hx _,?_⟩;simp;exact ⟨q + 1,hlt,hmu,hw,rfl⟩
   .have hlt' : ¬ (q : Int) < (t.args.length : Int):=by omega
    have hq2 : q = t.args.length:=by omega
    subst hq2;simp
 .rw [if_neg h4,List.append_nil] at hW
  have hW2 : l = W:=hW.symm
  simp [h4];refine zE (fun q : Nat=>q <= t.args.length) (fun q=>([.ptr (d + 1) 3 0,.any,I pos] ++ (List.replicate 25 .any ++ [.p (.sl 3 (t.args.map Ty.enc)),I t.args.length,I q,.any,.any,.any,.any,.any,.any,.any,.any]))) (fun q=>[.cells [U t.kind,Sg t.name,.p (.sl 3 (t.args.map Ty.enc))] 33] :: updK S d (F q)) (fun q=>t.args.length - q) 0 (Nat.zero_le _) ?_ ?_ ?_
  .simp
  .simp [hF0,<- hW2,hs]
  intro q hq1
  by_cases hlt : q < t.args.length
  .have hlt' : (q : Int) < (t.args.length : Int):=by omega
   have hw:=zD hlt
   have hx:=fun L=>(ih _ (List.getElem_mem hlt) (F q) (hFb q hlt)).at h L
   rw [<- hFs q hlt] at hx
   have hmu : t.args.length - (q + 1) < t.args.length - q:=by omega
   generalize he : t.args[q] = x at *
   simp [hlt,hlt',he,zC4];refine ⟨_,_,hx _,?_⟩;simp;exact ⟨q + 1,hlt,hmu,hw,rfl⟩
  .have hlt' : ¬ (q : Int) < (t.args.length : Int):=by omega
   have hq2 : q = t.args.length:=by omega
   subst hq2;simp
end Go.Proofs.YtlclonljdagpkaaGreatDoor
namespace Go.Proofs.YtlclonljdagpkaaGreatDoor
open Go.RowKit
attribute [local simp] List.replicate List.range List.range.loop resA zR retA zAi zAZ zY zAj zAb zQ rowA zf zT List.forall_mem_cons List.contains_cons List.contains_nil List.find? ze zd zS LCp LCl refL
def FC (p : List It) (F : Nat) (args : List AV) (σ τ : Nf) : Prop:=∀ (S : ASt) (c : Cf),NAt p S c σ -> ADet Tryz.prog F (.ptr c.d c.jF 0 :: args) S .un (updF S c τ)
theorem FC.at {p : List It} {F : Nat} {args : List AV} {σ σ1 σ2 : Nf} (hw : FC p F args σ1 σ2) {S : ASt} {c : Cf} (h : NAt p S c σ) (L : List AObj) : ADet Tryz.prog F (.ptr (c.d + 1) c.jF 0 :: args) (L :: updF S c σ1) .un (L :: updF S c σ2):=by
 have:=hw _ _ ((h.updF σ1).cons L)
 rw [zAT,zBz h] at this;exact this
theorem FC.intro {p : List It} {F : Nat} {args : List AV} {σ τ : Nf} (hw : ∀ (S : ASt) (c : Cf),NAt p S c σ -> ADet Tryz.prog F (.ptr c.d c.jF 0 :: args) (updF S c σ) .un (updF S c τ)) : FC p F args σ τ:=fun S c h=>by
 have:=hw S c h
 rw [zAG h] at this;exact this
theorem KC.inF {p : List It} {F : Nat} {args : List AV} {σ σ1 : Nf} {l2 : List Flt} (hw : KC p F args σ1.fl l2) {S : ASt} {c : Cf} (h : NAt p S c σ) (L : List AObj) : ADet Tryz.prog F (.ptr (c.k + c.d + 1) 3 0 :: args) (L :: updF S c σ1) .un (L :: updF S c ⟨σ1.made,σ1.count,σ1.opn,l2⟩):=by
 have a:=h.updF σ1
 have:=hw _ _ (a.k.cons L)
 rw [zEz,zGy a,zBz h] at this;exact this
theorem KC.inF0 {p : List It} {F : Nat} {args : List AV} {σ : Nf} {l2 : List Flt} (hw : KC p F args σ.fl l2) {S : ASt} {c : Cf} (h : NAt p S c σ) (L : List AObj) : ADet Tryz.prog F (.ptr (c.k + c.d + 1) 3 0 :: args) (L :: S) .un (L :: updF S c ⟨σ.made,σ.count,σ.opn,l2⟩):=by
 have:=hw.inF h L
 rw [zAG h] at this;exact this
theorem zQE (p : List It) (s : ByteArray) (pos : Int) (σ : Nf) (hl : σ.fl.length + 1 <= 4294967296) : FC p 188 [Sg s,I pos] σ (σ.add (zI (mIs σ.made s) 60 pos)):=fun S c h=>by
 have ho:=h.n
 have hm:=h.m
 simp only [fnO] at ho;simp only [mdO] at hm
 have hwr:=fun b L=>(zDS p b 60 pos σ.fl hl).inF0 h L
 unfold Nf.add;refine ADet.intro mixed Tryz.call188 Tryz.func188 rfl ?_;simp [Tryz.ntmps188];refine zA [] (by kernel_rfl) (by kernel_rfl) ?_
 rcases zCU s σ.made 0 with ⟨h1,h2,h3⟩ | ⟨j,b,h1,h2,h3⟩
 .have hi : mIs σ.made s = false:=by unfold mIs; rw [h1]; rfl
  simp [ho,hm,h2];refine ⟨_,_,hwr false _,?_⟩;simp [hi]
 .have hi : mIs σ.made s = b:=by unfold mIs; rw [h1]; rfl
  simp [ho,hm,h2];refine ⟨_,_,hwr b _,?_⟩;simp [hi]
def clo (c : Cf) (g : Fg) : AV:=.fn (.func 219) [] [.bx [B g.2],.bx [.ptr c.d c.jF 0],.bx [Sg g.1]]
theorem zVl (p : List It) (g : Fg) (σ : Nf) (S : ASt) (c : Cf) (h : NAt p S c σ) : zPk Tryz.prog 219 [.bx [B g.2],.bx [.ptr c.d c.jF 0],.bx [Sg g.1]] S (updF S c (σ.put g)):=by
 have ho:=h.n
 have hm:=h.m
 simp only [fnO] at ho;simp only [mdO] at hm
 have hput : updF S c (σ.put g) = set2 S c.d c.jM (mdO (mPut σ.made g.1 g.2)):=by
  have hs:=zAG h
  refine zH7 (by rw [zEA,zBC]) fun d i=>?_
  rw [zBL h,zj _ h.m]
  have hne:=h.ne
  have e:=zBL h σ d i
  rw [hs] at e
  by_cases h1 : d = c.d /\ i = c.jF
  .rw [if_pos h1,if_neg (by omega)]
   rw [if_pos h1] at e; rw [e]; rfl
  .rw [if_neg h1]
   by_cases h2 : d = c.d /\ i = c.jM
   .rw [if_pos h2,if_pos h2]; rfl
   .rw [if_neg h2,if_neg h2]
    rw [if_neg h1,if_neg h2] at e;rw [e]
    show (if d = c.e /\ i = 3 then some (nlO σ.fl.length) else if d = c.e /\ i = 4 then some (rwO σ.fl) else _) = _
    repeat' (first | rfl | split)
 rw [hput];refine zPk.intro mixed Tryz.call219 Tryz.func219 rfl rfl ?_;simp [Tryz.ntmps219];refine zA [] (by kernel_rfl) (by kernel_rfl) ?_
 rcases zCU g.1 σ.made 0 with ⟨h1,h2,h3⟩ | ⟨j,b,h1,h2,h3⟩
 .simp [ho,hm,h2,zPl]
  rw [h3]; simp [mdO,mdE]
 .simp [ho,hm,h2,zPl]
  rw [mdO,h3]
theorem zX7 (p : List It) (s : ByteArray) (pos : Int) (σ : Nf) (hl : σ.fl.length + 1 <= 4294967296) (hc : σ.count < 4294967296) (S : ASt) (c : Cf) (h : NAt p S c σ) : ADet Tryz.prog 186 [.ptr c.d c.jF 0,Sg s,I pos] S (clo c (s,mIs σ.made s)) (updF S c (σ.mk1 s pos)):=by
 have ho:=h.n
 have hm:=h.m
 have hwr:=fun b L=>(zDS p b 60 pos σ.fl hl).inF0 h L
 have e1:=zGy h (σ.fl ++ zI (mGet σ.made s).isNone 60 pos)
 have hA:=h.updF ⟨σ.made,σ.count,σ.opn,σ.fl ++ zI (mGet σ.made s).isNone 60 pos⟩
 have ho':=hA.n
 have hm':=hA.m
 have hfin : set2 (set2 (updF S c ⟨σ.made,σ.count,σ.opn,σ.fl ++ zI (mGet σ.made s).isNone 60 pos⟩) c.d c.jM (mdO (mPut σ.made s true))) c.d c.jF (fnO c ⟨mPut σ.made s true,σ.count + 1,σ.opn,σ.fl ++ zI (mGet σ.made s).isNone 60 pos⟩) = updF S c (σ.mk1 s pos):=by
  rw [<- e1]; rfl
 generalize hT : updF S c ⟨σ.made,σ.count,σ.opn,σ.fl ++ zI (mGet σ.made s).isNone 60 pos⟩ = T at *
 have n1:=fun o=>zDg T c.d (i:=c.jM) (j:=c.jF) o (fun e=>h.ne e.symm)
 simp only [fnO] at ho ho';simp only [mdO] at hm hm'
 have hcw : IntKind.i64.wrap ((σ.count : Int) + 1) = ((σ.count + 1 : Nat) : Int):=zD (n:=4294967296) hc (by unfold maxLen; omega)
 refine ADet.introFz [(2,[B (mIs σ.made s)],123),(0,[.ptr (c.d + 1) c.jF 0],120),(1,[Sg s],9)] mixed Tryz.call186 Tryz.func186 rfl ?_;simp [Tryz.ntmps186];refine zA [(0,9),(3,9),(4,9),(5,9)] (by kernel_rfl) (by kernel_rfl) ?_
 rcases zCU s σ.made 0 with ⟨h1,h2,h3⟩ | ⟨j,b,h1,h2,h3⟩
 .have hi : mIs σ.made s = false:=by unfold mIs; rw [h1]; rfl
  simp only [h1,Option.isNone_none] at hT;simp [ho,hm,h2];refine ⟨_,_,hwr true _,?_⟩;simp;rw [hT];refine zA [] (by kernel_rfl) (by kernel_rfl) ?_
  rw [h3] at hfin;simp [ho',hm',h2,n1,hcw,zNN,FzOk,AV.fz,AV.fzs,clo,hi,zBe]
  simpa [mdO,fnO,mdE] using hfin
 .have hi : mIs σ.made s = b:=by unfold mIs; rw [h1]; rfl
  simp [ho,hm,h2];refine ⟨_,_,hwr false _,?_⟩;simp;simp only [h1,Option.isNone_some] at hT;rw [hT];refine zA [] (by kernel_rfl) (by kernel_rfl) ?_
  simp only [mdO] at hfin;rw [h3] at hfin;simp [ho',hm',h2,n1,hcw,zNN,FzOk,AV.fz,AV.fzs,clo,hi,zBe]
  simpa [fnO] using hfin
end Go.Proofs.YtlclonljdagpkaaGreatDoor
namespace Go.Proofs.YtlclonljdagpkaaGreatDoor
open Go.RowKit
attribute [local simp] List.replicate List.range List.range.loop resA zR retA AV.cuts AV.cut AObj.cut trim wkR wkT wkL wkN wkNR wkNL wkM wkMR wkML
theorem zKA (S : ASt) (L : List AObj) (d : Nat) : ADet Tryz.prog 60 [.ptr d 3 0] (L :: S) (.ptr 0 (L.length + 1) 0) ((L ++ [.map [],.cells [.ptr d 3 0,.mp 0 L.length,I 0,I 0] 126]) :: S):=by
 refine ADet.flat mixed Tryz.call60 Tryz.func60 rfl ?_;simp [Tryz.ntmps60]
abbrev fiZ1 : AV:=.agg [Sg emS,U 0,Sg emS,nilS]
def zGD (l : List Fi) (s : ByteArray) : AV:=match zA5 l s with | some v=>.tup [fiV v,B true] | none=>.tup [fiZ1,B false]
theorem zKB {l : List Fi} {s : ByteArray} (h : ∀ i (hi : i < l.length),sEq l[i].name s = false) : zA5 l s = none:=by
 unfold zA5;rw [List.find?_eq_none];intro x hx
 obtain ⟨i,hi,rfl⟩:=List.getElem_of_mem hx
 rw [h i hi]; simp
theorem zKC {l : List Fi} {s : ByteArray} {q : Nat} (h : ∀ i (hi : i < l.length),i < q -> sEq l[i].name s = false) (hq : q < l.length) (hp : sEq l[q].name s = true) : zA5 l s = some l[q]:=by
 unfold zA5;rw [List.find?_eq_some_iff_getElem];exact ⟨hp,q,hq,rfl,fun j hj=>by rw [h j (by omega) hj]; rfl⟩
theorem zIx (x : It) (s : ByteArray) (S : ASt) : ADet Tryz.prog 192 [itV x,Sg s] S (zGD x.fields s) S:=by
 refine ADet.okA Tryz.call192 0 2 rfl rfl fun hok=>?_
 have hlen:=okl hok
 unfold zGD;refine ADet.intro mixed Tryz.call192 Tryz.func192 rfl ?_;simp [Tryz.ntmps192];refine zE (fun q : Nat=>q <= x.fields.length /\ ∀ i (hi : i < x.fields.length),i < q -> sEq x.fields[i].name s = false) (fun q=>[.any,Sg s,.ptr 0 0 0,.any,.ptr 0 1 0,.any,.any,.any,.any,.p (.sl 4 (x.fields.map Fi.enc)),I x.fields.length,I q,.any,.any,.any,.any,.any,.any,.any,.any,.any,.any]) (fun q=>[.cells (itU x) 42,.cells [Sg emS,U 0,Sg emS,nilS] 55] :: S) (fun q=>x.fields.length - q) 0 ⟨Nat.zero_le _,fun i hi h=>by omega⟩ ?_ ?_ ?_
 .simp
 .simp
 rintro q ⟨hq,hall⟩
 by_cases hlt : q < x.fields.length
 .have hlt' : (q : Int) < (x.fields.length : Int):=by omega
  have hw:=zD hlt
  have hs:=zKC hall hlt
  generalize hf : x.fields[q] = f at *
  cases hp : sEq f.name s with
  | true =>
   have hs:=hs hp
   simp [hlt,hlt',hf,Fi.enc,hp,hs]
  | false =>
   simp [hlt,hlt',hf,Fi.enc,hp]
   exact ⟨q + 1,⟨hlt,fun i hi h=>by
    rcases Nat.lt_or_ge i q with h' | h'
    .exact hall i hi h'
    .obtain rfl : i = q:=by omega
     rw [hf]; exact hp⟩,by omega,hw⟩
 .have hlt' : ¬ (q : Int) < (x.fields.length : Int):=by omega
  have hs:=zKB fun i hi=>hall i hi (by omega)
  simp [hlt',hs]
def zE3 : List (ByteArray × Nat) -> ByteArray -> List (ByteArray × Nat)
 | [],s=>[(s,1)]
 | e :: m,s=>if sEq s e.1 = true then (s,e.2 + 1) :: m else e :: zE3 m s
def zE4 : List (ByteArray × Nat) -> ByteArray -> Nat
 | [],_=>0
 | e :: m,s=>if sEq s e.1 = true then e.2 else zE4 m s
def ctE (m : List (ByteArray × Nat)) : List (Value × AV):=m.map fun e=>(.string e.1,I e.2)
def metC (l : List ByteArray) : List (ByteArray × Nat):=l.foldl zE3 []
theorem zFS (m : List (ByteArray × Nat)) (s t : ByteArray) : zE4 (zE3 m s) t = zE4 m t + if sEq s t = true then 1 else 0:=by
 induction m with
 | nil =>
  simp only [zE3,zE4]
  rw [show sEq t s = sEq s t by
   by_cases h : t = s
   .subst h; rfl
   .rw [zBh h,zBh fun e=>h e.symm]]
  split <;> rfl
 | cons e m ih =>
  unfold zE3
  by_cases h : sEq s e.1 = true
  .rw [if_pos h]
   have:=zAw.1 h
   subst this;unfold zE4
   by_cases ht : t = e.1
   .subst ht; simp
   .rw [if_neg (by rw [zBh ht]; simp),if_neg (by rw [zBh ht]; simp),if_neg (by rw [zBh fun e=>ht e.symm]; simp),Nat.add_zero]
  .rw [if_neg h]
   unfold zE4
   by_cases ht : sEq t e.1 = true
   .rw [if_pos ht,if_pos ht]
    have:=zAw.1 ht
    subst this;rw [if_neg h,Nat.add_zero]
   .rw [if_neg ht,if_neg ht,ih]
theorem zIy (l : List ByteArray) (s : ByteArray) : zE4 (metC l) s = cntN l s:=by
 have key : ∀ (l : List ByteArray) (m : List (ByteArray × Nat)),zE4 (l.foldl zE3 m) s = zE4 m s + cntN l s:=by
  intro l
  induction l with
  | nil=>intro m; simp [cntN]
  | cons x l ih =>
   intro m;rw [List.foldl_cons,ih,zFS];unfold cntN;rw [List.countP_cons];omega
 unfold metC;rw [key]; simp [zE4]
theorem zKD (l : List ByteArray) (s : ByteArray) : metC (l ++ [s]) = zE3 (metC l) s:=by unfold metC; rw [List.foldl_append]; rfl
theorem zEE (s : ByteArray) : ∀ (m : List (ByteArray × Nat)) (i : Nat),(zE4 m s = 0 /\ zAU .string (.string s) (ctE m) i = some none /\ ctE (zE3 m s) = ctE m ++ [(.string s,I 1)]) \/ ∃ j,zAU .string (.string s) (ctE m) i = some (some (i + j,I (zE4 m s))) /\ ctE (zE3 m s) = (ctE m).set j (.string s,I (zE4 m s + 1 : Nat))
 | [],i=>.inl ⟨rfl,rfl,rfl⟩
 | e :: m,i=>by
  have hd : ctE (e :: m) = (.string e.1,I e.2) :: ctE m:=rfl
  rw [hd,zi,zE4,zE3]
  by_cases h : sEq s e.1 = true
  .rw [if_pos h,if_pos h,if_pos h]
   exact .inr ⟨0,rfl,rfl⟩
  .rw [if_neg h,if_neg h,if_neg h]
   rcases zEE s m (i + 1) with ⟨h1,h2,h3⟩ | ⟨j,h2,h3⟩
   .exact .inl ⟨h1,h2,by show (.string e.1,I e.2) :: ctE (zE3 m s) = _; rw [h3]; rfl⟩
   .refine .inr ⟨j + 1,by rw [h2]; congr 2; simp; omega,?_⟩
    show (.string e.1,I e.2) :: ctE (zE3 m s) = _
    rw [h3]; rfl
theorem zIC (n : Nat) (m : List (ByteArray × Nat)) : (ctE m).map (fun kv=>(kv.1,AV.cut n kv.2)) = ctE m:=by
 unfold ctE; rw [List.map_map]; rfl
theorem zQF (l : List ByteArray) (s : ByteArray) : cntN l s <= l.length:=List.countP_le_length
abbrev arsV (l : List Ar) : AV:=.p (.sl 3 (l.map Ar.enc))
def arVn (a : Ar) : ByteArray:=a.variant
theorem zG3 (x : It) : ∀ (l : List Fg) (met : List ByteArray) (k : List Fg),zEL x met (l ++ k) = (zEL x met l && zEL x (met ++ l.map (·.1)) k)
 | [],met,k=>by simp [zEL]
 | b :: l,met,k=>by
  show zEL x met (b :: (l ++ k)) = _
  have e1 : zEL x met (b :: (l ++ k)) = ((match zA5 x.fields b.1 with | some v=>(b.2 == decide (v.type.kind ≠ 0)) | none=>false) && (decide (cntN met b.1 = 0) && zEL x (met ++ [b.1]) (l ++ k))):=rfl
  have e2 : zEL x met (b :: l) = ((match zA5 x.fields b.1 with | some v=>(b.2 == decide (v.type.kind ≠ 0)) | none=>false) && (decide (cntN met b.1 = 0) && zEL x (met ++ [b.1]) l)):=rfl
  rw [e1,e2,zG3 x l (met ++ [b.1]) k];simp only [List.map_cons,List.append_assoc,List.singleton_append];rw [Bool.and_assoc,Bool.and_assoc]
def zVm (x : It) (met : List ByteArray) (a : Ar) : Bool:=(match zA5 x.fields a.variant with | some v=>(!sEq a.name emS) == decide (v.type.kind ≠ 0) | none=>false) && decide (cntN met a.variant = 0)
theorem zKE (x : It) (l : List Ar) {q : Nat} (h : q < l.length) (hall : zEL x [] ((l.take q).map armF) = true) : zEL x [] ((l.take (q + 1)).map armF) = zVm x ((l.take q).map arVn) l[q]:=by
 rw [List.take_succ_eq_append_getElem h,List.map_append,zG3,hall,Bool.true_and,List.nil_append,List.map_map];simp only [List.map_cons,List.map_nil,zEL,Bool.and_true];rfl
theorem zQG (x : It) (l : List Ar) {q : Nat} (h : q < l.length) (hall : zEL x [] ((l.take q).map armF) = true) (hno : zVm x ((l.take q).map arVn) l[q] = false) : zEg x (l.map armF) = false:=by
 have e:=zKE x l h hall
 rw [hno] at e
 have : l.map armF = (l.take (q + 1)).map armF ++ (l.drop (q + 1)).map armF:=by rw [<- List.map_append,List.take_append_drop]
 unfold zEg;rw [this,zG3,e]; rfl
theorem zVn (x : It) (l : List Ar) (hl : l.length <= 20000) (hx : x.fields.length <= 20000) (S : ASt) : ADet Tryz.prog 220 [itV x,arsV l] S (B (zEg x (l.map armF))) S:=by
 refine ADet.intro mixed Tryz.call220 Tryz.func220 rfl ?_;simp [Tryz.ntmps220];refine zE (fun q : Nat=>q <= l.length /\ zEL x [] ((l.take q).map armF) = true) (fun q=>([.any,arsV l,.ptr 0 0 0,.any,.any,.mp 0 1,.any,.any,.any,.any,.any,.any,.any,arsV l,I l.length,I q] ++ List.replicate 48 .any)) (fun q=>[.cells (itU x) 42,.map (ctE (metC ((l.take q).map arVn)))] :: S) (fun q=>l.length - q) 0 ⟨Nat.zero_le _,rfl⟩ ?_ ?_ ?_
 .simp
 .simp [metC,ctE]
 rintro q ⟨hq,hall⟩
 by_cases hlt : q < l.length
 .have hlt' : (q : Int) < (l.length : Int):=by omega
  have hw:=zD hlt (by unfold maxLen; omega)
  have htk : (l.take (q + 1)).map arVn = (l.take q).map arVn ++ [l[q].variant]:=by rw [List.take_succ_eq_append_getElem hlt,List.map_append]; rfl
  have hst:=zKE x l hlt hall
  have hno:=zQG x l hlt hall
  have hcn:=zIy ((l.take q).map arVn) l[q].variant
  have hcl:=zQF ((l.take q).map arVn) l[q].variant
  have hms:=zKD ((l.take q).map arVn) l[q].variant
  rw [List.length_map,List.length_take,Nat.min_eq_left hq] at hcl
  have hvC:=fun S=>zIx x l[q].variant S
  have hfd:=zEE l[q].variant (metC ((l.take q).map arVn)) 0
  have hfd2:=zEE l[q].variant (zE3 (metC ((l.take q).map arVn)) l[q].variant) 0
  rw [hcn] at hfd;rw [zFS,hcn] at hfd2;simp only [sEq_self,if_true] at hfd2;rw [<- hms,<- htk] at hfd2;unfold zVm at hst hno;unfold zGD at hvC
  generalize hn : cntN ((l.take q).map arVn) l[q].variant = n at *
  have hw1 : IntKind.i64.wrap ((n : Int) + 1) = ((n + 1 : Nat) : Int):=zD (n:=4294967296) (by omega) (by unfold maxLen; omega)
  rw [<- htk] at hms
  have hmu : l.length - (q + 1) < l.length - q:=by omega
  have hm1 : ∃ j1,zAU .string (.string l[q].variant) (ctE (metC ((l.take (q + 1)).map arVn))) 0 = some (some (j1,I (n + 1 : Nat))):=by
   rcases hfd2 with ⟨h1,_,_⟩ | ⟨j,h1,_⟩
   .omega
   .exact ⟨_,h1⟩
  obtain ⟨j1,hm1⟩:=hm1
  clear hfd2;rw [<- hms] at hfd
  generalize hm1e : metC ((l.take (q + 1)).map arVn) = m1 at *
  generalize hmm : metC ((l.take q).map arVn) = m0 at *
  generalize ha : l[q] = a at *
  simp [hlt,hlt',ha,Ar.enc];refine ⟨_,_,hvC _,?_⟩
  have hgt : (1 < (n : Int) + 1) = (0 < n):=by rw [eq_iff_iff]; omega
  rcases hfd with ⟨h1,h2,h3⟩ | ⟨j,h2,h3⟩
  .have h1' : n = 0:=by omega
   have hw0 : IntKind.i64.wrap 1 = 1:=rfl
   have h3' : ctE m0 ++ [(.string a.variant,I 1)] = ctE m1:=h3.symm
   cases hvf : zA5 x.fields a.variant with
   | none =>
    rw [hvf] at hst hno;simp [h2,h3',hm1,hw0,hvf]
    exact hno rfl
   | some v =>
    rw [hvf] at hst hno;simp only at hst hno
    by_cases hn0 : n = 0
    .subst hn0
     cases hs : sEq a.name emS with
     | true =>
      by_cases hz : v.type.kind = 0
      .have hz' : (v.type.kind != 0) = false:=by simpa using hz
       simp [h2,h3',hm1,hw0,hvf,hs,hz,hz'];exact ⟨q + 1,⟨hlt,by rw [<- List.map_take,hst,hs,hz]; rfl⟩,hmu,hw,by rw [zIC,<- List.map_take,hm1e]⟩
      .have hz' : (v.type.kind != 0) = true:=by simpa using hz
       simp [h2,h3',hm1,hw0,hvf,hs,hz']
       exact hno (by rw [hs]; simp [hz])
     | false =>
      by_cases hz : v.type.kind = 0
      .have hz' : (v.type.kind != 0) = false:=by simpa using hz
       simp [h2,h3',hm1,hw0,hvf,hs,hz'];exact hno (by rw [hs]; simp [hz])
      .have hz' : (v.type.kind != 0) = true:=by simpa using hz
       simp [h2,h3',hm1,hw0,hvf,hs,hz,hz'];exact ⟨q + 1,⟨hlt,by rw [<- List.map_take,hst,hs]; simp [hz]⟩,hmu,hw,by rw [zIC,<- List.map_take,hm1e]⟩
    .have hn1 : (0 < n):=by omega
     have hn2 : (1 : Int) < (n : Int) + 1:=by omega
     have hno:=hno (by simp [hn0])
     cases hs : sEq a.name emS with
     | true =>
      by_cases hz : v.type.kind = 0
      .have hz' : (v.type.kind != 0) = false:=by simpa using hz
       simp [h2,h3',hm1,hw0,hvf,hs,hz',hn0,hn1,hn2,hno]
      .have hz' : (v.type.kind != 0) = true:=by simpa using hz
       simp [h2,h3',hm1,hw0,hvf,hs,hz',hn0,hn1,hn2,hno]
     | false =>
      by_cases hz : v.type.kind = 0
      .have hz' : (v.type.kind != 0) = false:=by simpa using hz
       simp [h2,h3',hm1,hw0,hvf,hs,hz',hn0,hn1,hn2,hno]
      .have hz' : (v.type.kind != 0) = true:=by simpa using hz
       simp [h2,h3',hm1,hw0,hvf,hs,hz',hn0,hn1,hn2,hno]
  .have h3' : (ctE m0).set j (.string a.variant,I ((n : Int) + 1)) = ctE m1:=h3.symm
   cases hvf : zA5 x.fields a.variant with
   | none =>
    rw [hvf] at hst hno;simp [h2,h3',hm1,hw1,hvf]
    exact hno rfl
   | some v =>
    rw [hvf] at hst hno;simp only at hst hno
    by_cases hn0 : n = 0
    .subst hn0
     have h3' : (ctE m0).set j (.string a.variant,I 1) = ctE m1:=by simpa using h3'
     have hm1 : zAU .string (.string a.variant) (ctE m1) 0 = some (some (j1,I 1)):=by simpa using hm1
     have hw0 : IntKind.i64.wrap 1 = 1:=rfl
     cases hs : sEq a.name emS with
     | true =>
      by_cases hz : v.type.kind = 0
      .have hz' : (v.type.kind != 0) = false:=by simpa using hz
       simp [h2,h3',hm1,hw0,hvf,hs,hz,hz'];exact ⟨q + 1,⟨hlt,by rw [<- List.map_take,hst,hs,hz]; rfl⟩,hmu,hw,by rw [zIC,<- List.map_take,hm1e]⟩
      .have hz' : (v.type.kind != 0) = true:=by simpa using hz
       simp [h2,h3',hm1,hw0,hvf,hs,hz']
       exact hno (by rw [hs]; simp [hz])
     | false =>
      by_cases hz : v.type.kind = 0
      .have hz' : (v.type.kind != 0) = false:=by simpa using hz
       simp [h2,h3',hm1,hw0,hvf,hs,hz'];exact hno (by rw [hs]; simp [hz])
      .have hz' : (v.type.kind != 0) = true:=by simpa using hz
       simp [h2,h3',hm1,hw0,hvf,hs,hz,hz'];exact ⟨q + 1,⟨hlt,by rw [<- List.map_take,hst,hs]; simp [hz]⟩,hmu,hw,by rw [zIC,<- List.map_take,hm1e]⟩
    .have hn1 : (0 < n):=by omega
     have hn2 : (1 : Int) < (n : Int) + 1:=by omega
     have hno:=hno (by simp [hn0])
     cases hs : sEq a.name emS with
     | true =>
      by_cases hz : v.type.kind = 0
      .have hz' : (v.type.kind != 0) = false:=by simpa using hz
       simp [h2,h3',hm1,hw1,hvf,hs,hz',hn0,hn1,hn2,hno]
      .have hz' : (v.type.kind != 0) = true:=by simpa using hz
       simp [h2,h3',hm1,hw1,hvf,hs,hz',hn0,hn1,hn2,hno]
     | false =>
      by_cases hz : v.type.kind = 0
      .have hz' : (v.type.kind != 0) = false:=by simpa using hz
       simp [h2,h3',hm1,hw1,hvf,hs,hz',hn0,hn1,hn2,hno]
      .have hz' : (v.type.kind != 0) = true:=by simpa using hz
       simp [h2,h3',hm1,hw1,hvf,hs,hz',hn0,hn1,hn2,hno]
 .have hlt' : ¬ (q : Int) < (l.length : Int):=by omega
  have hq2 : q = l.length:=by omega
  subst hq2;rw [List.take_length] at hall;simp;clear hlt hlt' hq
  have hmp : (l.map armF).map (·.1) = l.map arVn:=by rw [List.map_map]; rfl
  have hcov : zEg x (l.map armF) = x.fields.all fun v=>decide (0 < cntN (l.map arVn) v.name):=by
   unfold zEg;rw [hall,Bool.true_and,hmp]
  have hlenx : x.fields.length <= maxLen:=by unfold maxLen; omega
  rw [hcov];refine zE (fun q : Nat=>q <= x.fields.length /\ ∀ i (hi : i < x.fields.length),i < q -> 0 < cntN (l.map arVn) x.fields[i].name) (fun q=>([.any,.any,.ptr 0 0 0,.any,.any,.mp 0 1] ++ (List.replicate 46 .any ++ [.p (.sl 4 (x.fields.map Fi.enc)),I x.fields.length,I q,.any,.any,.any,.any,.any,.any,.any,.any,.any]))) (fun q=>[.cells (itU x) 42,.map (ctE (metC (l.map arVn)))] :: S) (fun q=>x.fields.length - q) 0 ⟨Nat.zero_le _,fun i hi h=>by omega⟩ ?_ ?_ ?_
  .simp
  .simp
  rintro q ⟨hq,hpos⟩
  by_cases hlt : q < x.fields.length
  .have hlt' : (q : Int) < (x.fields.length : Int):=by omega
   have hw:=zD hlt hlenx
   have hcn:=zIy (l.map arVn) x.fields[q].name
   have hfd:=zEE x.fields[q].name (metC (l.map arVn)) 0
   rw [hcn] at hfd
   have hno : cntN (l.map arVn) x.fields[q].name = 0 -> (x.fields.all fun v=>decide (0 < cntN (l.map arVn) v.name)) = false:=fun h0=>by
    rw [List.all_eq_false];exact ⟨_,List.getElem_mem hlt,by rw [h0]; simp⟩
   have hmu : x.fields.length - (q + 1) < x.fields.length - q:=by omega
   have hst : ∀ n,n = cntN (l.map arVn) x.fields[q].name -> 0 < n -> ∀ i (hi : i < x.fields.length),i < q + 1 -> 0 < cntN (l.map arVn) x.fields[i].name:=fun n hn h0 i hi hiq=>by
    rcases Nat.lt_or_ge i q with h' | h'
    .exact hpos i hi h'
    .obtain rfl : i = q:=by omega
     rw [<- hn]; exact h0
   generalize hn : cntN (l.map arVn) x.fields[q].name = n at *
   generalize hfe : x.fields[q] = f at *
   generalize (x.fields.all fun v=>decide (0 < cntN (l.map arVn) v.name)) = R at *
   rcases hfd with ⟨h1,h2,h3⟩ | ⟨j,h2,h3⟩
   .have hR:=hno h1
    simp [hlt,hlt',hfe,Fi.enc,h2,hR]
   .by_cases h0 : n = 0
    .have hR:=hno h0
     subst h0;simp [hlt,hlt',hfe,Fi.enc,h2,hR]
    .have hz : ((n : Int) == 0) = false:=by simpa using h0
     simp [hlt,hlt',hfe,Fi.enc,h2,h0,hz];exact ⟨q + 1,⟨hlt,hst n rfl (by omega)⟩,hmu,hw,by rw [zIC]⟩
  .have hlt' : ¬ (q : Int) < (x.fields.length : Int):=by omega
   have hR : (x.fields.all fun v=>decide (0 < cntN (l.map arVn) v.name)) = true:=by
    rw [List.all_eq_true];intro v hv
    obtain ⟨i,hi,rfl⟩:=List.getElem_of_mem hv
    simpa using hpos i hi (by omega)
   rw [hR];simp [hlt']
end Go.Proofs.YtlclonljdagpkaaGreatDoor
