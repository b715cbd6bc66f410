/- A part of the proof. The statement is proved in the claim's last text. -/
import Derived.Test.YtlclonljdagpkaaGreatDoorQNPb
import Derived.Test.YtlclonljdagpkaaGreatDoorQNPa
import Derived.Test.YtlclonljdagpkaaGreatDoorQMLt
set_option linter.unusedVariables false
set_option linter.unusedSimpArgs false
set_option maxRecDepth 100000
set_option maxHeartbeats 32000000
namespace Go.Proofs.YtlclonljdagpkaaGreatDoor
open Go.RowKit
attribute [local simp] List.replicate List.range List.range.loop resA zR retA AV.cuts AV.cut AObj.cut trim wkR wkT wkL wkN wkNR wkNL wkM wkMR wkML zAi zAZ zY zAj zAb zQ rowA zf zT List.forall_mem_cons List.contains_cons List.contains_nil List.find? ze zd zS LCp LCl refL
theorem ADet.toP2 {P : Program} {F : FuncId} {as1 as2 : List AV} {v : AV} {q : PV} {S S' : ASt} {r : AV} (hv : v.toP = some q) (h : ADet P F (as1 ++ .p q :: as2) S r S') : ADet P F (as1 ++ v :: as2) S r S':=by
 refine ⟨h.1,fun Pr φ xs w hargs hR hne=>h.2 Pr φ xs w ⟨by rw [<- hargs.1]; simp,fun j c x hc hx=>?_⟩ hR hne⟩
 rcases Nat.lt_trichotomy j as1.length with hj | hj | hj
 .rw [List.getElem?_append_left hj] at hc
  exact hargs.2 j c x (by rw [List.getElem?_append_left hj]; exact hc) hx
 .subst hj
  rw [List.getElem?_append_right (Nat.le_refl _),Nat.sub_self] at hc;cases hc;exact .p ((hargs.2 as1.length v x (by rw [List.getElem?_append_right (Nat.le_refl _),Nat.sub_self]; rfl) hx).toP hv)
 .rw [List.getElem?_append_right (by omega),show j - as1.length = (j - as1.length - 1) + 1 by omega,List.getElem?_cons_succ] at hc
  exact hargs.2 j c x (by rw [List.getElem?_append_right (by omega),show j - as1.length = (j - as1.length - 1) + 1 by omega,List.getElem?_cons_succ]; exact hc) hx
theorem zX8 (p : List It) (hp : ∀ x ∈ p,x.fields.length <= 20000) (s : St) (harms : ∀ a ∈ s.arms,∀ x ∈ a.body,StmC p x) (hal : s.arms.length <= 20000) (σ : Nf) (hb : BdN σ (1 + (s.arms.map Ar.nd).sum)) :
  FC p 189 [.agg (stV s)] σ (s.arms.foldl (fun σ a=>a.nm p s.pos σ) (σ.add (zI (mIs σ.made s.name && zDn p s.second (s.arms.map armF)) 60 s.pos))):=fun S c h=>by
 have hlen : s.arms.length <= maxLen:=by unfold maxLen; omega
 have hs:=zAG h
 obtain ⟨bb,hbv⟩ : ∃ bb,bb = (mIs σ.made s.name && zDn p s.second (s.arms.map armF)):=⟨_,rfl⟩
 rw [<- hbv]
 obtain ⟨F,hF⟩ : ∃ F : Nat -> Nf,F = fun q=>(s.arms.take q).foldl (fun σ a=>a.nm p s.pos σ) (σ.add (zI bb 60 s.pos)):=⟨_,rfl⟩
 have hF0 : F 0 = σ.add (zI bb 60 s.pos):=by rw [hF]; simp
 have hFn : F s.arms.length = s.arms.foldl (fun σ a=>a.nm p s.pos σ) (σ.add (zI bb 60 s.pos)):=by rw [hF]; simp
 have hFs : ∀ q (hq : q < s.arms.length),F (q + 1) = s.arms[q].nm p s.pos (F q):=fun q hq=>by
  rw [hF];simp only [List.take_succ_eq_append_getElem hq,List.foldl_append,List.foldl_cons,List.foldl_nil]
 have hFb : ∀ q (hq : q < s.arms.length),BdN (F q) ((oneN s.arms[q].name).length + (s.arms[q].body.map St.nd).sum):=fun q hq=>by
  have e1:=zBM Ar.nd hq
  have key : ∀ (l : List Ar) (τ : Nf),Near τ (l.map Ar.nd).sum (l.foldl (fun σ a=>a.nm p s.pos σ) τ):=by
   intro l
   induction l with
   | nil=>intro τ; exact Near.refl τ
   | cons a l ih =>
    intro τ
    have h1:=zBc p (l:=a.body) (fun x _ σ=>zDp p x σ) s.pos (oneN a.name) τ
    have h2:=ih (a.nm p s.pos τ)
    have ho:=zIw a.name
    have hn:=arNd a
    rw [List.map_cons,List.sum_cons,List.foldl_cons];exact (Near.trans (b:=a.nm p s.pos τ) h1 h2).le (by omega)
  have e2:=(Near.add σ (zq bb 60 s.pos)).trans (key (s.arms.take q) (σ.add (zI bb 60 s.pos)))
  have ho:=zIw s.arms[q].name
  have hn:=arNd s.arms[q]
  rw [hF];exact hb.near e2 (by omega)
 clear hF;rw [<- hFn]
 have hwr:=fun b L=>(zDS p b 60 s.pos σ.fl (by have:=hb.1; omega)).inF0 h L
 have hst : ∀ X,(⟨σ.made,σ.count,σ.opn,σ.fl ++ X⟩ : Nf) = σ.add X:=fun X=>rfl
 simp only [hst] at hwr
 have ho:=h.n
 have hm:=h.m
 simp only [fnO] at ho;simp only [mdO] at hm
 have hi1:=fun L=>zIB p 2 s.second σ.fl (L :: S) _ (h.k.cons L)
 simp only [Cf.e] at hi1;unfold zNj at hi1;unfold zDn zGx at hbv;refine ADet.intro mixed Tryz.call189 Tryz.func189 rfl ?_;simp [Tryz.ntmps189];refine zDf [(10,11,4)] [] (by kernel_rfl) (by kernel_rfl) (by kernel_rfl) (by simp) ?_
 cases hfi : zAM p s.second with
 | none =>
  rw [hfi] at hi1 hbv
  have hbb : bb = false:=by rw [hbv]; simp
  simp [ho];refine ⟨_,_,hi1 _,?_⟩;simp;refine zA [(3,19),(22,19)] (by kernel_rfl) (by kernel_rfl) ?_
  rcases zCU s.name σ.made 0 with ⟨h1,h2,h3⟩ | ⟨j,b,h1,h2,h3⟩
  .simp [ho,hm,h2]
   refine ⟨_,_,hwr false _,?_⟩;simp;refine zE (fun q : Nat=>q <= s.arms.length) (fun q=>([.ptr (c.d + 1) c.jF 0,.any,.any,.ptr 0 0 0] ++ (List.replicate 39 .any ++ ([.p (.sl 3 (s.arms.map Ar.enc)),I s.arms.length,I q] ++ List.replicate 22 .any)))) (fun q=>[.cells (stV s) 45,.dead] :: updF S c (F q)) (fun q=>s.arms.length - q) 0 (Nat.zero_le _) ?_ ?_ ?_
   .simp
   .simp [hF0,hbb]
   intro q hq
   by_cases hlt : q < s.arms.length
   .have hlt' : (q : Int) < (s.arms.length : Int):=by omega
    have hw:=zD hlt hlen
    have hF1:=hFs q hlt
    have hmu : s.arms.length - (q + 1) < s.arms.length - q:=by omega
    have hbl:=fun L=>(zE6 p s.arms[q].body (harms _ (List.getElem_mem hlt)) s.pos (oneN s.arms[q].name) (F q) (hFb q hlt)).at h L
    have e1 : zy p s.arms[q].body s.pos (oneN s.arms[q].name) (F q) = F (q + 1):=hF1.symm
    rw [e1] at hbl;clear hF1 e1
    generalize he : s.arms[q] = a at *
    cases hs : sEq a.name emS with
    | true =>
     have ho1 : oneN a.name = []:=by unfold oneN; rw [hs]; rfl
     rw [ho1] at hbl
     have hb0 : ∀ L,ADet Tryz.prog 191 [.ptr (c.d + 1) c.jF 0,.p (.sl 15 (a.body.map St.enc)),I s.pos,nilS] (L :: updF S c (F q)) .un (L :: updF S c (F (q + 1))):=fun L=>ADet.sub (by repeat' constructor) (hbl L)
     simp [hlt,hlt',he,hs,Ar.enc];refine ⟨_,_,hb0 _,?_⟩;simp
     exact ⟨q + 1,hlt,hmu,hw,rfl⟩
    | false =>
     have ho1 : oneN a.name = [a.name]:=by unfold oneN; rw [hs]; rfl
     rw [ho1] at hbl
     have hb1 : ∀ L i,ADet Tryz.prog 191 [.ptr (c.d + 1) c.jF 0,.p (.sl 15 (a.body.map St.enc)),I s.pos,.osl 1 [[pS a.name]] 0 i] (L :: updF S c (F q)) .un (L :: updF S c (F (q + 1))):=fun L i=>ADet.toP2 (as1:=[.ptr (c.d + 1) c.jF 0,.p (.sl 15 (a.body.map St.enc)),I s.pos]) (as2:=[]) (v:=.osl 1 [[pS a.name]] 0 i) rfl (hbl L)
     simp [hlt,hlt',he,hs,Ar.enc];refine ⟨_,_,hb1 _ _,?_⟩;simp;exact ⟨q + 1,hlt,hmu,hw,rfl⟩
   .have hlt' : ¬ (q : Int) < (s.arms.length : Int):=by omega
    have hq2 : q = s.arms.length:=by omega
    subst hq2;simp
  .cases b with
   | false =>
    simp [ho,hm,h2];refine ⟨_,_,hwr false _,?_⟩;simp;refine zE (fun q : Nat=>q <= s.arms.length) (fun q=>([.ptr (c.d + 1) c.jF 0,.any,.any,.ptr 0 0 0] ++ (List.replicate 39 .any ++ ([.p (.sl 3 (s.arms.map Ar.enc)),I s.arms.length,I q] ++ List.replicate 22 .any)))) (fun q=>[.cells (stV s) 45,.dead] :: updF S c (F q)) (fun q=>s.arms.length - q) 0 (Nat.zero_le _) ?_ ?_ ?_
    .simp
    .simp [hF0,hbb]
    intro q hq
    by_cases hlt : q < s.arms.length
    .have hlt' : (q : Int) < (s.arms.length : Int):=by omega
     have hw:=zD hlt hlen
     have hF1:=hFs q hlt
     have hmu : s.arms.length - (q + 1) < s.arms.length - q:=by omega
     have hbl:=fun L=>(zE6 p s.arms[q].body (harms _ (List.getElem_mem hlt)) s.pos (oneN s.arms[q].name) (F q) (hFb q hlt)).at h L
     have e1 : zy p s.arms[q].body s.pos (oneN s.arms[q].name) (F q) = F (q + 1):=hF1.symm
     rw [e1] at hbl;clear hF1 e1
     generalize he : s.arms[q] = a at *
     cases hs : sEq a.name emS with
     | true =>
      have ho1 : oneN a.name = []:=by unfold oneN; rw [hs]; rfl
      rw [ho1] at hbl
      have hb0 : ∀ L,ADet Tryz.prog 191 [.ptr (c.d + 1) c.jF 0,.p (.sl 15 (a.body.map St.enc)),I s.pos,nilS] (L :: updF S c (F q)) .un (L :: updF S c (F (q + 1))):=fun L=>ADet.sub (by repeat' constructor) (hbl L)
      simp [hlt,hlt',he,hs,Ar.enc];refine ⟨_,_,hb0 _,?_⟩;simp
      exact ⟨q + 1,hlt,hmu,hw,rfl⟩
     | false =>
      have ho1 : oneN a.name = [a.name]:=by unfold oneN; rw [hs]; rfl
      rw [ho1] at hbl
      have hb1 : ∀ L i,ADet Tryz.prog 191 [.ptr (c.d + 1) c.jF 0,.p (.sl 15 (a.body.map St.enc)),I s.pos,.osl 1 [[pS a.name]] 0 i] (L :: updF S c (F q)) .un (L :: updF S c (F (q + 1))):=fun L i=>ADet.toP2 (as1:=[.ptr (c.d + 1) c.jF 0,.p (.sl 15 (a.body.map St.enc)),I s.pos]) (as2:=[]) (v:=.osl 1 [[pS a.name]] 0 i) rfl (hbl L)
      simp [hlt,hlt',he,hs,Ar.enc];refine ⟨_,_,hb1 _ _,?_⟩;simp;exact ⟨q + 1,hlt,hmu,hw,rfl⟩
    .have hlt' : ¬ (q : Int) < (s.arms.length : Int):=by omega
     have hq2 : q = s.arms.length:=by omega
     subst hq2
     simp
   | true =>
    simp [ho,hm,h2];refine ⟨_,_,hwr false _,?_⟩;simp;refine zE (fun q : Nat=>q <= s.arms.length) (fun q=>([.ptr (c.d + 1) c.jF 0,.any,.any,.ptr 0 0 0] ++ (List.replicate 39 .any ++ ([.p (.sl 3 (s.arms.map Ar.enc)),I s.arms.length,I q] ++ List.replicate 22 .any)))) (fun q=>[.cells (stV s) 45,.dead] :: updF S c (F q)) (fun q=>s.arms.length - q) 0 (Nat.zero_le _) ?_ ?_ ?_
    .simp
    .simp [hF0,hbb]
    intro q hq
    by_cases hlt : q < s.arms.length
    .have hlt' : (q : Int) < (s.arms.length : Int):=by omega
     have hw:=zD hlt hlen
     have hF1:=hFs q hlt
     have hmu : s.arms.length - (q + 1) < s.arms.length - q:=by omega
     have hbl:=fun L=>(zE6 p s.arms[q].body (harms _ (List.getElem_mem hlt)) s.pos (oneN s.arms[q].name) (F q) (hFb q hlt)).at h L
     have e1 : zy p s.arms[q].body s.pos (oneN s.arms[q].name) (F q) = F (q + 1):=hF1.symm
     rw [e1] at hbl;clear hF1 e1
     generalize he : s.arms[q] = a at *
     cases hs : sEq a.name emS with
     | true =>
      have ho1 : oneN a.name = []:=by unfold oneN; rw [hs]; rfl
      rw [ho1] at hbl
      have hb0 : ∀ L,ADet Tryz.prog 191 [.ptr (c.d + 1) c.jF 0,.p (.sl 15 (a.body.map St.enc)),I s.pos,nilS] (L :: updF S c (F q)) .un (L :: updF S c (F (q + 1))):=fun L=>ADet.sub (by repeat' constructor) (hbl L)
      simp [hlt,hlt',he,hs,Ar.enc];refine ⟨_,_,hb0 _,?_⟩;simp
      exact ⟨q + 1,hlt,hmu,hw,rfl⟩
     | false =>
      have ho1 : oneN a.name = [a.name]:=by unfold oneN; rw [hs]; rfl
      rw [ho1] at hbl
      have hb1 : ∀ L i,ADet Tryz.prog 191 [.ptr (c.d + 1) c.jF 0,.p (.sl 15 (a.body.map St.enc)),I s.pos,.osl 1 [[pS a.name]] 0 i] (L :: updF S c (F q)) .un (L :: updF S c (F (q + 1))):=fun L i=>ADet.toP2 (as1:=[.ptr (c.d + 1) c.jF 0,.p (.sl 15 (a.body.map St.enc)),I s.pos]) (as2:=[]) (v:=.osl 1 [[pS a.name]] 0 i) rfl (hbl L)
      simp [hlt,hlt',he,hs,Ar.enc];refine ⟨_,_,hb1 _ _,?_⟩;simp;exact ⟨q + 1,hlt,hmu,hw,rfl⟩
    .have hlt' : ¬ (q : Int) < (s.arms.length : Int):=by omega
     have hq2 : q = s.arms.length:=by omega
     subst hq2
     simp
 | some x =>
  rw [hfi] at hi1 hbv
  have hxm : x ∈ p:=by unfold zAM at hfi; exact List.mem_of_find?_eq_some hfi
  have hcv:=fun S=>zVn x s.arms hal (hp x hxm) S
  simp only [Option.bind_some] at hbv;simp [ho];refine ⟨_,_,hi1 _,?_⟩;simp;refine zA [(3,19),(22,19)] (by kernel_rfl) (by kernel_rfl) ?_
  rcases zCU s.name σ.made 0 with ⟨h1,h2,h3⟩ | ⟨j,b,h1,h2,h3⟩
  .have hbb : bb = false:=by rw [hbv]; unfold mIs; rw [h1]; rfl
   simp [ho,hm,h2];refine ⟨_,_,hwr false _,?_⟩;simp;refine zE (fun q : Nat=>q <= s.arms.length) (fun q=>([.ptr (c.d + 1) c.jF 0,.any,.any,.ptr 0 0 0] ++ (List.replicate 39 .any ++ ([.p (.sl 3 (s.arms.map Ar.enc)),I s.arms.length,I q] ++ List.replicate 22 .any)))) (fun q=>[.cells (stV s) 45,.dead] :: updF S c (F q)) (fun q=>s.arms.length - q) 0 (Nat.zero_le _) ?_ ?_ ?_
   .simp
   .simp [hF0,hbb]
   intro q hq
   by_cases hlt : q < s.arms.length
   .have hlt' : (q : Int) < (s.arms.length : Int):=by omega
    have hw:=zD hlt hlen
    have hF1:=hFs q hlt
    have hmu : s.arms.length - (q + 1) < s.arms.length - q:=by omega
    have hbl:=fun L=>(zE6 p s.arms[q].body (harms _ (List.getElem_mem hlt)) s.pos (oneN s.arms[q].name) (F q) (hFb q hlt)).at h L
    have e1 : zy p s.arms[q].body s.pos (oneN s.arms[q].name) (F q) = F (q + 1):=hF1.symm
    rw [e1] at hbl;clear hF1 e1
    generalize he : s.arms[q] = a at *
    cases hs : sEq a.name emS with
    | true =>
     have ho1 : oneN a.name = []:=by unfold oneN; rw [hs]; rfl
     rw [ho1] at hbl
     have hb0 : ∀ L,ADet Tryz.prog 191 [.ptr (c.d + 1) c.jF 0,.p (.sl 15 (a.body.map St.enc)),I s.pos,nilS] (L :: updF S c (F q)) .un (L :: updF S c (F (q + 1))):=fun L=>ADet.sub (by repeat' constructor) (hbl L)
     simp [hlt,hlt',he,hs,Ar.enc];refine ⟨_,_,hb0 _,?_⟩;simp
     exact ⟨q + 1,hlt,hmu,hw,rfl⟩
    | false =>
     have ho1 : oneN a.name = [a.name]:=by unfold oneN; rw [hs]; rfl
     rw [ho1] at hbl
     have hb1 : ∀ L i,ADet Tryz.prog 191 [.ptr (c.d + 1) c.jF 0,.p (.sl 15 (a.body.map St.enc)),I s.pos,.osl 1 [[pS a.name]] 0 i] (L :: updF S c (F q)) .un (L :: updF S c (F (q + 1))):=fun L i=>ADet.toP2 (as1:=[.ptr (c.d + 1) c.jF 0,.p (.sl 15 (a.body.map St.enc)),I s.pos]) (as2:=[]) (v:=.osl 1 [[pS a.name]] 0 i) rfl (hbl L)
     simp [hlt,hlt',he,hs,Ar.enc];refine ⟨_,_,hb1 _ _,?_⟩;simp;exact ⟨q + 1,hlt,hmu,hw,rfl⟩
   .have hlt' : ¬ (q : Int) < (s.arms.length : Int):=by omega
    have hq2 : q = s.arms.length:=by omega
    subst hq2;simp
  .cases b with
   | false =>
    have hbb : bb = false:=by rw [hbv]; unfold mIs; rw [h1]; rfl
    simp [ho,hm,h2];refine ⟨_,_,hwr false _,?_⟩;simp;refine zE (fun q : Nat=>q <= s.arms.length) (fun q=>([.ptr (c.d + 1) c.jF 0,.any,.any,.ptr 0 0 0] ++ (List.replicate 39 .any ++ ([.p (.sl 3 (s.arms.map Ar.enc)),I s.arms.length,I q] ++ List.replicate 22 .any)))) (fun q=>[.cells (stV s) 45,.dead] :: updF S c (F q)) (fun q=>s.arms.length - q) 0 (Nat.zero_le _) ?_ ?_ ?_
    .simp
    .simp [hF0,hbb]
    intro q hq
    by_cases hlt : q < s.arms.length
    .have hlt' : (q : Int) < (s.arms.length : Int):=by omega
     have hw:=zD hlt hlen
     have hF1:=hFs q hlt
     have hmu : s.arms.length - (q + 1) < s.arms.length - q:=by omega
     have hbl:=fun L=>(zE6 p s.arms[q].body (harms _ (List.getElem_mem hlt)) s.pos (oneN s.arms[q].name) (F q) (hFb q hlt)).at h L
     have e1 : zy p s.arms[q].body s.pos (oneN s.arms[q].name) (F q) = F (q + 1):=hF1.symm
     rw [e1] at hbl;clear hF1 e1
     generalize he : s.arms[q] = a at *
     cases hs : sEq a.name emS with
     | true =>
      have ho1 : oneN a.name = []:=by unfold oneN; rw [hs]; rfl
      rw [ho1] at hbl
      have hb0 : ∀ L,ADet Tryz.prog 191 [.ptr (c.d + 1) c.jF 0,.p (.sl 15 (a.body.map St.enc)),I s.pos,nilS] (L :: updF S c (F q)) .un (L :: updF S c (F (q + 1))):=fun L=>ADet.sub (by repeat' constructor) (hbl L)
      simp [hlt,hlt',he,hs,Ar.enc];refine ⟨_,_,hb0 _,?_⟩;simp
      exact ⟨q + 1,hlt,hmu,hw,rfl⟩
     | false =>
      have ho1 : oneN a.name = [a.name]:=by unfold oneN; rw [hs]; rfl
      rw [ho1] at hbl
      have hb1 : ∀ L i,ADet Tryz.prog 191 [.ptr (c.d + 1) c.jF 0,.p (.sl 15 (a.body.map St.enc)),I s.pos,.osl 1 [[pS a.name]] 0 i] (L :: updF S c (F q)) .un (L :: updF S c (F (q + 1))):=fun L i=>ADet.toP2 (as1:=[.ptr (c.d + 1) c.jF 0,.p (.sl 15 (a.body.map St.enc)),I s.pos]) (as2:=[]) (v:=.osl 1 [[pS a.name]] 0 i) rfl (hbl L)
      simp [hlt,hlt',he,hs,Ar.enc];refine ⟨_,_,hb1 _ _,?_⟩;simp;exact ⟨q + 1,hlt,hmu,hw,rfl⟩
    .have hlt' : ¬ (q : Int) < (s.arms.length : Int):=by omega
     have hq2 : q = s.arms.length:=by omega
     subst hq2
     simp
   | true =>
    by_cases hk : x.kind = 2
    .have hbb : bb = zEg x (s.arms.map armF):=by rw [hbv,if_pos hk]; unfold mIs; rw [h1]; rfl
     have hdk : decide (x.kind = 2) = true:=decide_eq_true hk
     simp [ho,hm,h2,hdk];refine ⟨_,_,hcv _,?_⟩;simp;refine ⟨_,_,hwr _ _,?_⟩;simp;refine zE (fun q : Nat=>q <= s.arms.length) (fun q=>([.ptr (c.d + 1) c.jF 0,.any,.any,.ptr 0 0 0] ++ (List.replicate 39 .any ++ ([.p (.sl 3 (s.arms.map Ar.enc)),I s.arms.length,I q] ++ List.replicate 22 .any)))) (fun q=>[.cells (stV s) 45,.dead] :: updF S c (F q)) (fun q=>s.arms.length - q) 0 (Nat.zero_le _) ?_ ?_ ?_
     .simp
     .simp [hF0,hbb]
     intro q hq
     by_cases hlt : q < s.arms.length
     .have hlt' : (q : Int) < (s.arms.length : Int):=by omega
      have hw:=zD hlt hlen
      have hF1:=hFs q hlt
      have hmu : s.arms.length - (q + 1) < s.arms.length - q:=by omega
      have hbl:=fun L=>(zE6 p s.arms[q].body (harms _ (List.getElem_mem hlt)) s.pos (oneN s.arms[q].name) (F q) (hFb q hlt)).at h L
      have e1 : zy p s.arms[q].body s.pos (oneN s.arms[q].name) (F q) = F (q + 1):=hF1.symm
      rw [e1] at hbl;clear hF1 e1
      generalize he : s.arms[q] = a at *
      cases hs : sEq a.name emS with
      | true =>
       have ho1 : oneN a.name = []:=by unfold oneN; rw [hs]; rfl
       rw [ho1] at hbl
       have hb0 : ∀ L,ADet Tryz.prog 191 [.ptr (c.d + 1) c.jF 0,.p (.sl 15 (a.body.map St.enc)),I s.pos,nilS] (L :: updF S c (F q)) .un (L :: updF S c (F (q + 1))):=fun L=>ADet.sub (by repeat' constructor) (hbl L)
       simp [hlt,hlt',he,hs,Ar.enc];refine ⟨_,_,hb0 _,?_⟩;simp
       exact ⟨q + 1,hlt,hmu,hw,rfl⟩
      | false =>
       have ho1 : oneN a.name = [a.name]:=by unfold oneN; rw [hs]; rfl
       rw [ho1] at hbl
       have hb1 : ∀ L i,ADet Tryz.prog 191 [.ptr (c.d + 1) c.jF 0,.p (.sl 15 (a.body.map St.enc)),I s.pos,.osl 1 [[pS a.name]] 0 i] (L :: updF S c (F q)) .un (L :: updF S c (F (q + 1))):=fun L i=>ADet.toP2 (as1:=[.ptr (c.d + 1) c.jF 0,.p (.sl 15 (a.body.map St.enc)),I s.pos]) (as2:=[]) (v:=.osl 1 [[pS a.name]] 0 i) rfl (hbl L)
       simp [hlt,hlt',he,hs,Ar.enc];refine ⟨_,_,hb1 _ _,?_⟩;simp;exact ⟨q + 1,hlt,hmu,hw,rfl⟩
     .have hlt' : ¬ (q : Int) < (s.arms.length : Int):=by omega
      have hq2 : q = s.arms.length:=by omega
      subst hq2;simp
    .have hbb : bb = false:=by rw [hbv,if_neg hk]; simp
     simp [ho,hm,h2,hk];refine ⟨_,_,hwr false _,?_⟩;simp;refine zE (fun q : Nat=>q <= s.arms.length) (fun q=>([.ptr (c.d + 1) c.jF 0,.any,.any,.ptr 0 0 0] ++ (List.replicate 39 .any ++ ([.p (.sl 3 (s.arms.map Ar.enc)),I s.arms.length,I q] ++ List.replicate 22 .any)))) (fun q=>[.cells (stV s) 45,.dead] :: updF S c (F q)) (fun q=>s.arms.length - q) 0 (Nat.zero_le _) ?_ ?_ ?_
     .simp
     .simp [hF0,hbb]
     intro q hq
     by_cases hlt : q < s.arms.length
     .have hlt' : (q : Int) < (s.arms.length : Int):=by omega
      have hw:=zD hlt hlen
      have hF1:=hFs q hlt
      have hmu : s.arms.length - (q + 1) < s.arms.length - q:=by omega
      have hbl:=fun L=>(zE6 p s.arms[q].body (harms _ (List.getElem_mem hlt)) s.pos (oneN s.arms[q].name) (F q) (hFb q hlt)).at h L
      have e1 : zy p s.arms[q].body s.pos (oneN s.arms[q].name) (F q) = F (q + 1):=hF1.symm
      rw [e1] at hbl;clear hF1 e1
      generalize he : s.arms[q] = a at *
      cases hs : sEq a.name emS with
      | true =>
       have ho1 : oneN a.name = []:=by unfold oneN; rw [hs]; rfl
       rw [ho1] at hbl
       have hb0 : ∀ L,ADet Tryz.prog 191 [.ptr (c.d + 1) c.jF 0,.p (.sl 15 (a.body.map St.enc)),I s.pos,nilS] (L :: updF S c (F q)) .un (L :: updF S c (F (q + 1))):=fun L=>ADet.sub (by repeat' constructor) (hbl L)
       simp [hlt,hlt',he,hs,Ar.enc];refine ⟨_,_,hb0 _,?_⟩;simp
       exact ⟨q + 1,hlt,hmu,hw,rfl⟩
      | false =>
       have ho1 : oneN a.name = [a.name]:=by unfold oneN; rw [hs]; rfl
       rw [ho1] at hbl
       have hb1 : ∀ L i,ADet Tryz.prog 191 [.ptr (c.d + 1) c.jF 0,.p (.sl 15 (a.body.map St.enc)),I s.pos,.osl 1 [[pS a.name]] 0 i] (L :: updF S c (F q)) .un (L :: updF S c (F (q + 1))):=fun L i=>ADet.toP2 (as1:=[.ptr (c.d + 1) c.jF 0,.p (.sl 15 (a.body.map St.enc)),I s.pos]) (as2:=[]) (v:=.osl 1 [[pS a.name]] 0 i) rfl (hbl L)
       simp [hlt,hlt',he,hs,Ar.enc];refine ⟨_,_,hb1 _ _,?_⟩;simp;exact ⟨q + 1,hlt,hmu,hw,rfl⟩
     .have hlt' : ¬ (q : Int) < (s.arms.length : Int):=by omega
      have hq2 : q = s.arms.length:=by omega
      subst hq2;simp
theorem zQK {p : List It} {S : ASt} {c : Cf} {σ : Nf} (h : NAt p S c σ) (s : St) (g : Nf) : NAt p ([.cells (stV s) 45,mdO g.made,fnO ⟨0,c.k + c.d + 1,2,1⟩ g] :: updK S (c.k + c.d) g.fl) ⟨0,c.k + c.d + 1,2,1⟩ g:=by
 have hk:=h.k
 refine ⟨⟨(hk.updK g.fl).t,(hk.updK g.fl).f,(hk.updK g.fl).l,(hk.updK g.fl).r⟩,rfl,rfl,fun e=>by simp at e,fun e=>by simp at e,by simp⟩
theorem zMV {p : List It} {S : ASt} {c : Cf} {σ : Nf} (h : NAt p S c σ) (s : St) (g g' : Nf) : updF ([.cells (stV s) 45,mdO g.made,fnO ⟨0,c.k + c.d + 1,2,1⟩ g] :: updK S (c.k + c.d) g.fl) ⟨0,c.k + c.d + 1,2,1⟩ g' = [.cells (stV s) 45,mdO g'.made,fnO ⟨0,c.k + c.d + 1,2,1⟩ g'] :: updK S (c.k + c.d) g'.fl:=by
 have e:=zEz [.cells (stV s) 45,mdO g.made,fnO ⟨0,c.k + c.d + 1,2,1⟩ g] (updK S (c.k + c.d) g.fl) (c.k + c.d) g'.fl
 rw [zJ6 (e:=c.k + c.d) h.k] at e
 show set2 (set2 (updK ([.cells (stV s) 45,mdO g.made,fnO ⟨0,c.k + c.d + 1,2,1⟩ g] :: updK S (c.k + c.d) g.fl) (c.k + c.d + 1) g'.fl) 0 1 (mdO g'.made)) 0 2 (fnO ⟨0,c.k + c.d + 1,2,1⟩ g') = _
 rw [e,zGZ,zGZ];rfl
theorem zX9 (p : List It) (s : St) (hbody : ∀ x ∈ s.body,StmC p x) (σ : Nf) (hb : BdN σ (2 + (s.names.length + (s.body.map St.nd).sum))) :
  FC p 190 [.agg (stV s)] σ ⟨σ.made,σ.count,σ.opn,(zBQ p s.body s.pos s.names (σ.fl ++ zI (decide (0 < σ.opn)) 61 s.pos)).fl ++ zI (decide ((zBQ p s.body s.pos s.names (σ.fl ++ zI (decide (0 < σ.opn)) 61 s.pos)).count <= 60)) 4 s.pos⟩:=fun S c h=>by
 refine ADet.okA Tryz.call190 1 3 rfl rfl fun hok=>?_
 have hlen : s.names.length <= maxLen:=okl hok
 have hs:=zAG h
 have ho:=h.n
 simp only [fnO] at ho
 obtain ⟨g0,hg0⟩ : ∃ g0 : Nf,g0 = ⟨[],0,0,σ.fl ++ zI (decide (0 < σ.opn)) 61 s.pos⟩:=⟨_,rfl⟩
 obtain ⟨F,hF⟩ : ∃ F : Nat -> Nf,F = fun q=>(Nf.mkS (s.names.take q) s.pos g0).1:=⟨_,rfl⟩
 have hF0 : F 0 = g0:=by rw [hF]; simp [Nf.mkS]
 have hFn : F s.names.length = (Nf.mkS s.names s.pos g0).1:=by rw [hF]; simp
 have hFs : ∀ q (hq : q < s.names.length),F (q + 1) = (F q).mk1 s.names[q] s.pos:=fun q hq=>by
  rw [hF];simp only [List.take_succ_eq_append_getElem hq,zI0];simp [Nf.mkS]
 have hbg : BdN g0 (1 + (s.names.length + (s.body.map St.nd).sum)):=by
  obtain ⟨b1,b2,b3⟩:=hb
  have:=zq (decide (0 < σ.opn)) 61 s.pos
  rw [hg0];exact ⟨by simp only [List.length_append]; omega,by simp only; omega,by simp only; omega⟩
 have hFb : ∀ q,q < s.names.length -> BdN (F q) 1:=fun q hq=>by
  have e2:=(zAo (s.names.take q) s.pos g0).1
  rw [hF];exact hbg.near e2 (by simp; omega)
 have hbn : BdN (F s.names.length) (s.body.map St.nd).sum:=by
  rw [hFn];exact hbg.near (zAo s.names s.pos g0).1 (by omega)
 obtain ⟨G,hG⟩ : ∃ G,G = Nf.undo (St.nms p s.body (F s.names.length)).2 (St.nms p s.body (F s.names.length)).1:=⟨_,rfl⟩
 have hGl : G.fl.length + 1 <= 4294967296:=by
  have e1:=(zCn p (l:=s.body) (fun x _ σ=>zDp p x σ) (F s.names.length)).1
  have e2:=e1.trans (zDo (St.nms p s.body (F s.names.length)).2 (St.nms p s.body (F s.names.length)).1)
  rw [<- hG] at e2
  have:=hbn.1
  have:=e2.2.1
  omega
 have hsp : zBQ p s.body s.pos s.names (σ.fl ++ zI (decide (0 < σ.opn)) 61 s.pos) = G:=by rw [hG,hFn,hg0]; rfl
 rw [hsp]
 have hE : ∀ S : ASt,ADet Tryz.prog 221 [] S .un S:=fun S=>by
  refine ADet.intro mixed Tryz.call221 Tryz.func221 rfl ?_;simp [Tryz.ntmps221]
 have hw1:=fun b L=>(zDS p b 61 s.pos σ.fl (by have:=hb.1; omega)).inF0 h L
 have e0 : updF S c ⟨σ.made,σ.count,σ.opn,σ.fl ++ zI (decide (0 < σ.opn)) 61 s.pos⟩ = updK S (c.k + c.d) g0.fl:=by rw [<- zGy h,hg0]; rfl
 have e1 : updF S c ⟨σ.made,σ.count,σ.opn,G.fl ++ zI (decide (G.count <= 60)) 4 s.pos⟩ = updK S (c.k + c.d) (G.fl ++ zI (decide (G.count <= 60)) 4 s.pos):=by rw [<- zGy h]; rfl
 rw [e1]
 have hst:=zQJ p s.body hbody (F s.names.length) hbn 221 [] (St.nms p s.body (F s.names.length)).1 _ ⟨0,c.k + c.d + 1,2,1⟩ (zQK h s (F s.names.length)) (fun L=>hE _)
 rw [<- hG,zMV h] at hst
 have hmk : ∀ q (hq : q < s.names.length),ADet Tryz.prog 186 [.ptr 0 2 0,Sg s.names[q],I s.pos] ([.cells (stV s) 45,mdO (F q).made,fnO ⟨0,c.k + c.d + 1,2,1⟩ (F q)] :: updK S (c.k + c.d) (F q).fl) (clo ⟨0,c.k + c.d + 1,2,1⟩ (s.names[q],mIs (F q).made s.names[q])) ([.cells (stV s) 45,mdO (F (q + 1)).made,fnO ⟨0,c.k + c.d + 1,2,1⟩ (F (q + 1))] :: updK S (c.k + c.d) (F (q + 1)).fl):=fun q hq=>by
  have hb1:=hFb q hq
  have:=zX7 p s.names[q] s.pos (F q) (by have:=hb1.1; omega) (by have:=hb1.2.1; omega) _ ⟨0,c.k + c.d + 1,2,1⟩ (zQK h s (F q))
  rw [zMV h,<- hFs q hq] at this;exact this
 have hw2 : ∀ L : List AObj,ADet Tryz.prog 57 [.ptr (c.k + c.d + 1) 3 0,B (decide (G.count <= 60)),I 4,I s.pos] (L :: updK S (c.k + c.d) G.fl) .un (L :: updK S (c.k + c.d) (G.fl ++ zI (decide (G.count <= 60)) 4 s.pos)):=fun L=>(zDS p _ 4 s.pos G.fl hGl).at h.k L
 refine ADet.intro mixed Tryz.call190 Tryz.func190 rfl ?_;simp [Tryz.ntmps190];refine zA [] (by kernel_rfl) (by kernel_rfl) ?_
 have hA:=h.updF ⟨σ.made,σ.count,σ.opn,σ.fl ++ zI (decide (0 < σ.opn)) 61 s.pos⟩
 rw [e0] at hA
 have hoA:=hA.n
 simp only [fnO] at hoA
 have hw1' : ∀ L : List AObj,ADet Tryz.prog 57 [.ptr (c.k + c.d + 1) 3 0,B (decide (0 < σ.opn)),I 61,I s.pos] (L :: S) .un (L :: updK S (c.k + c.d) g0.fl):=fun L=>by
  have:=hw1 (decide (0 < σ.opn)) L
  rw [e0] at this;exact this
 simp [ho];refine ⟨_,_,hw1' _,?_⟩;simp [hoA];refine ⟨_,_,zKA _ [.cells (stV s) 45] (c.k + c.d + 1),?_⟩;simp;refine zE (fun q : Nat=>q <= s.names.length) (fun q=>([.ptr (c.d + 1) c.jF 0,.any,.any,.ptr 0 0 0,.ptr 0 2 0] ++ (List.replicate 20 .any ++ ([.p (.sl 1 (s.names.map fun s=>[pS s])),I s.names.length,I q] ++ List.replicate 25 .any)))) (fun q=>[.cells (stV s) 45,mdO (F q).made,fnO ⟨0,c.k + c.d + 1,2,1⟩ (F q)] :: updK S (c.k + c.d) (F q).fl) (fun q=>s.names.length - q) 0 (Nat.zero_le _) ?_ ?_ ?_
 .simp [strs]
 .simp [hF0]
  rw [hg0];exact ⟨rfl,⟨rfl,zL _⟩,trivial⟩
 intro q hq
 by_cases hlt : q < s.names.length
 .have hlt' : (q : Int) < (s.names.length : Int):=by omega
  have hw:=zD hlt
  have hmu : s.names.length - (q + 1) < s.names.length - q:=by omega
  have hmq:=hmk q hlt
  have hmd : ∀ n (τ : Nf),AObj.cut n (mdO τ.made) = mdO τ.made:=fun n τ=>by unfold mdO mdE AObj.cut; simp [AV.cut,AV.cuts]
  generalize he : s.names[q] = x at *
  simp [hlt,hlt',he];refine ⟨_,_,hmq,?_⟩;simp;refine ⟨q + 1,hlt,hmu,hw,?_,rfl⟩
  show wkL [AObj.cut 3 (mdO (F (q + 1)).made),AObj.cut 3 (fnO ⟨0,c.k + c.d + 1,2,1⟩ (F (q + 1)))] _
  rw [hmd];exact ⟨rfl,⟨rfl,zL _⟩,trivial⟩
 .have hlt' : ¬ (q : Int) < (s.names.length : Int):=by omega
  have hq2 : q = s.names.length:=by omega
  subst hq2;simp;refine ⟨_,_,hst,?_⟩;simp;refine zA [] (by kernel_rfl) (by kernel_rfl) ?_
  have hoB : get2 (updK S (c.k + c.d) G.fl) c.d c.jF = some (.cells [.ptr c.k 3 0,.mp 0 c.jM,I σ.count,I σ.opn] 126):=by
   have:=(h.updF ⟨σ.made,σ.count,σ.opn,G.fl⟩).n
   rw [<- zGy h] at this;exact this
  simp [hoB,fnO]
  have hdec : decide ((G.count : Int) <= 60) = decide (G.count <= 60):=decide_eq_decide.2 (by omega)
  rw [hdec];refine ⟨_,_,hw2 _,?_⟩;simp
end Go.Proofs.YtlclonljdagpkaaGreatDoor
