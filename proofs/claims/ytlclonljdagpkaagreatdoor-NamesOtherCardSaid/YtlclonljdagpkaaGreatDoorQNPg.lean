/- A part of the proof. The statement is proved in the claim's last text. -/
import Derived.Test.YtlclonljdagpkaaGreatDoorQNPf
import Derived.Test.YtlclonljdagpkaaGreatDoorQMWi
import Derived.Test.YtlclonljdagpkaaGreatDoorQMRoom
set_option linter.unusedVariables false
set_option linter.unusedSimpArgs false
set_option maxRecDepth 100000
set_option maxHeartbeats 32000000
namespace Go.Proofs.YtlclonljdagpkaaGreatDoor
open Go.RowKit
attribute [local simp] List.replicate List.range List.range.loop resA zR retA AV.cuts AV.cut AObj.cut trim wkR wkT wkL wkN wkNR wkNL wkM wkMR wkML zAi zAZ zY zAj zAb zQ rowA zf zT List.forall_mem_cons List.contains_cons List.contains_nil List.find? ze zd zS LCp LCl refL
theorem zIE (p : List It) : ∀ (a b : List It) (i : Nat) (fl : List Flt),zCT p i (a ++ b) fl = zCT p (i + a.length) b (zCT p i a fl)
 | [],b,i,fl=>rfl
 | x :: a,b,i,fl=>by
  rw [List.cons_append,zCT,zCT,zIE p a b,List.length_cons]
  congr 1
  omega
theorem zKG (p : List It) (x : It) (fl : List Flt) : Near ⟨(x.fields.map Fi.name).foldl (fun m s=>mPut m s true) [],x.fields.length,0,fl⟩ ((x.body.map St.nd).sum + x.ret.nd) (zDE p x fl):=by
 have e1:=(zCn p (l:=x.body) (fun s _ σ=>zDp p s σ) ⟨(x.fields.map Fi.name).foldl (fun m s=>mPut m s true) [],x.fields.length,0,fl⟩).1
 have e2:=e1.trans (Near.add _ (zIv p (St.nms p x.body ⟨(x.fields.map Fi.name).foldl (fun m s=>mPut m s true) [],x.fields.length,0,fl⟩).1.made x.ret))
 exact (e2.trans (zDo (St.nms p x.body ⟨(x.fields.map Fi.name).foldl (fun m s=>mPut m s true) [],x.fields.length,0,fl⟩).2 _)).le (by omega)
theorem zQM (p : List It) (q : Nat) (x : It) (fl : List Flt) : (zBJ p q x fl).length <= fl.length + x.nd:=by
 have h1:=zq (!zAO p q x) 60 x.pos
 have h2:=zDG p x.pos x.fields []
 have h3:=zD8 p x.pos x.result
 have h4:=zKG p x (((fl ++ zI (!zAO p q x) 60 x.pos) ++ zAS p x.pos [] x.fields) ++ x.result.nm p x.pos)
 have h5:=zq (decide ((zDE p x (((fl ++ zI (!zAO p q x) 60 x.pos) ++ zAS p x.pos [] x.fields) ++ x.result.nm p x.pos)).count <= 60)) 4 x.pos
 have h6:=h4.2.1
 have e : (x.fields.map Fi.nd1).sum = (x.fields.map Fi.nd).sum:=rfl
 unfold zBJ It.nd;simp only;split
 .simp only [List.length_append] at *
  omega
 .simp only [List.length_append] at *
  omega
theorem zB9 (p : List It) : ∀ (l : List It) (q : Nat) (fl : List Flt),(zCT p q l fl).length <= fl.length + (l.map It.nd).sum
 | [],q,fl=>Nat.le_refl _
 | x :: l,q,fl=>by
  have h1:=zB9 p l (q + 1) (zBJ p q x fl)
  have h2:=zQM p q x fl
  rw [zCT,List.map_cons,List.sum_cons];omega
theorem zFo (n : Nat) (l : List It) : (itE l).map (fun kv=>(kv.1,AV.cut n kv.2)) = itE l:=by
 unfold itE;rw [List.map_map];rfl
theorem zQN (n : Nat) (m : List Fg) : (mdE m).map (fun kv=>(kv.1,AV.cut n kv.2)) = mdE m:=by
 unfold mdE;rw [List.map_map];rfl
theorem zUH (n : Nat) (fl : List Flt) : AObj.mrg n (rwO fl) = rwO fl:=by
 show AObj.row _ _ _ (AV.mrgs n (rowC fltE fl)) = _
 rw [zF5];rfl
theorem zMY (n : Nat) (fl : List Flt) : AObj.cut n (rwO fl) = rwO fl:=by
 show AObj.row _ _ _ (AV.cuts n (rowC fltE fl)) = _
 rw [zD6];rfl
theorem zI3 (p : List It) (hs : PrSm p) (hnd : (p.map It.nd).sum <= 30000) (hw : z6 p = true) (L : List AObj) (hLL : wkL L L) (R : ASt) : ADet Tryz.prog 24 [.agg [.p (prog p)]] (L :: R) (.rsl 0 (L.length + 4) (z7 p).length 2) ((L ++ [.dead,.dead,.dead,.dead,rwO (z7 p)]) :: R):=by
 have hwc:=fun S=>zCm p hs S
 rw [hw] at hwc;refine ADet.after (S':=(L ++ (lev p (z7 p) []).map (AObj.mrg L.length)) :: R) ⟨zAy hLL ?_,rfl⟩ ?_
 .show wkL [AObj.mrg L.length (rwO (z7 p))] [rwO (z7 p)]
  rw [zUH];exact ⟨⟨⟨rfl,rfl,rfl⟩,zL _⟩,trivial⟩
 refine ADet.merge mixed Tryz.call24 Tryz.func24 rfl ?_
 have hp : p.length <= 20000:=hs.1
 have hlen : p.length <= maxLen:=by unfold maxLen; omega
 have hfl : ∀ x ∈ p,x.fields.length <= 20000:=fun x hx=>(hs.2 x hx).2.1.1
 have hxw : ∀ x ∈ p,x.whole 39 = true:=by
  unfold z6 z5 at hw;simp only [Bool.and_eq_true,decide_eq_true_eq] at hw;rw [List.take_of_length_le (by omega)] at hw
  exact List.all_eq_true.1 hw.2
 obtain ⟨F,hF⟩ : ∃ F : Nat -> List Flt,F = fun q=>zCT p 0 (p.take q) []:=⟨_,rfl⟩
 have hF0 : F 0 = []:=by rw [hF]; rfl
 have hFn : F p.length = zCT p 0 p []:=by rw [hF]; simp
 have hFs : ∀ q (hq : q < p.length),F (q + 1) = zBJ p q p[q] (F q):=fun q hq=>by
  rw [hF];simp only [List.take_succ_eq_append_getElem hq,zIE,List.length_take,Nat.min_eq_left (Nat.le_of_lt hq),Nat.zero_add];rfl
 have hFb : ∀ q (hq : q < p.length),(F q).length + p[q].nd <= 30000:=fun q hq=>by
  have e1:=zBM It.nd hq
  have e2:=zB9 p (p.take q) 0 []
  rw [hF];simp only [List.length_nil] at e2 ⊢;omega
 have hFl : (F p.length).length <= 30000:=by
  have e2:=zB9 p p 0 []
  rw [hFn];simp only [List.length_nil] at e2;omega
 have hck : z7 p = F p.length ++ zI (zFt p zFu) 62 0:=by unfold z7; rw [if_pos hw,hFn]
 clear hF
 have hga:=fun o R=>zVz p hp o R
 obtain ⟨al,hale⟩ : ∃ al,al = (zG6 p).map bolE:=⟨_,rfl⟩
 have halq : ∀ q (h : q < p.length),al[q]? = some [.v (.bool (zAO p q p[q]))]:=fun q h=>by
  rw [hale,List.getElem?_map,List.getElem?_eq_getElem (by rw [zCp]; exact h),zID p q h]
  rfl
 have hall : al.length = p.length:=by rw [hale,List.length_map,zCp]
 rw [<- hale] at hga;clear hale
 have hmn:=fun R=>(zZi p (F p.length) (by omega)).lev [] R
 simp [Tryz.ntmps24];refine ⟨_,_,hwc _,?_⟩;simp;refine ⟨_,_,hga _ _,?_⟩;simp [prog];refine zCf 48 2 (by decide) [.cells [.p (.sl 16 (p.map It.enc))] 24,.map (itE (zAC p false p.length)),.map (itE (zAC p true p.length)),nlO 0] (fun q : Nat=>q <= p.length) (fun q=>([.any,.ptr 0 0 0,.any,.ptr 0 3 0,.p (.sl 1 al)] ++ (List.replicate 18 .any ++ ([.p (.sl 16 (p.map It.enc)),I p.length,I q] ++ List.replicate 69 .any)))) (fun q=>lev p (F q) [] :: L :: R) (fun q=>p.length - q) (fun _=>5) 0 (Nat.zero_le _) ?_ ?_ ?_ ?_ ?_
 .intro q _; simp [lev]
 .simp
 .exact ⟨⟨rfl,.inr (.inl rfl),trivial⟩,rfl,rfl,⟨rfl,.inr (.inl rfl),.inr (.inl rfl),.inr (.inr ⟨rfl,rfl⟩),trivial⟩,trivial⟩
 .simp [hF0,lev,rwO,rowC]
 intro q hq
 by_cases hlt : q < p.length
 .have hlt' : (q : Int) < (p.length : Int):=by omega
  have hw2:=zD hlt hlen
  have hmu : p.length - (q + 1) < p.length - q:=by omega
  have hF1:=hFs q hlt
  have hFq:=hFb q hlt
  have hql : q < al.length:=by rw [hall]; exact hlt
  have hag : al[q] = [.v (.bool (zAO p q p[q]))]:=(List.getElem?_eq_some_iff.1 (halq q hlt)).2
  have hxf:=hfl _ (List.getElem_mem hlt)
  have hxx:=hxw _ (List.getElem_mem hlt)
  generalize hx : p[q] = x at *
  generalize ha : zAO p q x = a at *
  have hndx : x.nd = 3 + ((x.fields.map Fi.nd1).sum + (x.result.nd + ((x.body.map St.nd).sum + x.ret.nd))):=rfl
  have hwr:=fun ext R=>(zDS p (!a) 60 x.pos (F q) (by omega)).lev ext R
  have h1l:=zq (!a) 60 x.pos
  obtain ⟨f1,hf1⟩ : ∃ f,f = F q ++ zI (!a) 60 x.pos:=⟨_,rfl⟩
  rw [<- hf1] at hwr
  have hf1l : f1.length <= (F q).length + 1:=by rw [hf1,List.length_append]; omega
  have hfi:=fun ext R=>(zV0 p x f1 (by omega) hxf).lev ext R
  have h2l:=zDG p x.pos x.fields []
  obtain ⟨f2,hf2⟩ : ∃ f,f = f1 ++ zAS p x.pos [] x.fields:=⟨_,rfl⟩
  rw [<- hf2] at hfi
  have hf2l : f2.length <= f1.length + (x.fields.map Fi.nd1).sum:=by rw [hf2,List.length_append]; omega
  simp [hlt,hlt',hx,It.enc,lev];refine zA [] (by kernel_rfl) (by kernel_rfl) ?_
  simp [hag,hql];refine ⟨_,_,hwr [.cells (itU x) 42] _,?_⟩;simp;refine ⟨_,_,hfi [.cells (itU x) 42] _,?_⟩;simp [lev]
  by_cases h3 : x.kind = 3
  .have hkd:=fun ext R=>(zVk p x.pos x.result f2 (by omega)).lev ext R
   have h3l:=zD8 p x.pos x.result
   obtain ⟨f3,hf3⟩ : ∃ f,f = f2 ++ x.result.nm p x.pos:=⟨_,rfl⟩
   rw [<- hf3] at hkd
   have hf3l : f3.length <= f2.length + x.result.nd:=by rw [hf3,List.length_append]; omega
   simp [h3];refine ⟨_,_,hkd [.cells (itU x) 42] _,?_⟩;simp [lev];refine ⟨_,_,zKA (L :: R) (lev p f3 [.cells (itU x) 42]) 0,?_⟩;simp [lev]
   obtain ⟨M,hM⟩ : ∃ M : Nat -> List Fg,M = fun k=>((x.fields.take k).map Fi.name).foldl (fun m s=>mPut m s true) []:=⟨_,rfl⟩
   have hM0 : M 0 = []:=by rw [hM]; rfl
   have hMn : M x.fields.length = (x.fields.map Fi.name).foldl (fun m s=>mPut m s true) []:=by rw [hM]; simp
   have hMs : ∀ k (hk : k < x.fields.length),M (k + 1) = mPut (M k) x.fields[k].name true:=fun k hk=>by
    rw [hM];simp only [List.take_succ_eq_append_getElem hk,List.map_append,List.foldl_append];rfl
   clear hM
   have hfln : x.fields.length <= maxLen:=by unfold maxLen; omega
   refine zE (fun k : Nat=>k <= x.fields.length) (fun k=>([.any,.ptr 0 0 0,.any,.ptr 0 3 0,.p (.sl 1 al),I q,.ptr 0 5 0,.ptr 0 8 0] ++ (List.replicate 15 .any ++ ([.p (.sl 16 (p.map It.enc)),I p.length,I q] ++ (List.replicate 28 .any ++ ([.p (.sl 4 (x.fields.map Fi.enc)),I x.fields.length,I k] ++ List.replicate 38 .any)))))) (fun k=>levF p x ⟨M k,0,0,f3⟩ [.cells [.ptr 0 7 0] 120] :: L :: R) (fun k=>x.fields.length - k) 0 (Nat.zero_le _) ?_ ?_ ?_
   .simp
   .simp [levF,lev,fnO,mdO,mdE,hM0,c0F]
    exact ⟨⟨rfl,zL _⟩,⟨⟨rfl,rfl,rfl⟩,zL _⟩,⟨rfl,zL _⟩,rfl,⟨rfl,zL _⟩,⟨rfl,zL _⟩,trivial⟩
   intro k hk
   by_cases hlk : k < x.fields.length
   .have hlk' : (k : Int) < (x.fields.length : Int):=by omega
    have hw3:=zD hlk hfln
    have hmk:=hMs k hlk
    have hmu3 : x.fields.length - (k + 1) < x.fields.length - k:=by omega
    generalize hy : x.fields[k] = y at *
    simp [hlk,hlk',hy,Fi.enc,levF,lev,fnO,c0F];refine zA [] (by kernel_rfl) (by kernel_rfl) ?_
    rcases zCU y.name (M k) 0 with ⟨g1,g2,g3⟩ | ⟨j,b,g1,g2,g3⟩
    .simp [g2,mdO]
     refine ⟨k + 1,hlk,hmu3,hw3,zFo _ _,zFo _ _,?_⟩
     have e1 : (mdE (M k)).map (fun kv=>(kv.1,AV.cut 9 kv.2)) ++ [(.string y.name,.agg [.p (.v (.bool true))])] = mdE (M (k + 1)):=by rw [zQN,hmk]; rw [g3]; unfold mdE; rw [List.map_append]; rfl
     rw [e1]
     show wkL [nlO f3.length,AObj.cut 9 (rwO f3),.cells (itU x) 42,.map (mdE (M (k + 1))),.cells [.ptr 0 3 0,.mp 0 6,I 0,I 0] 126,.cells [.ptr 0 7 0] 120] _
     rw [zMY];exact ⟨⟨rfl,zL _⟩,⟨⟨rfl,rfl,rfl⟩,zL _⟩,⟨rfl,zL _⟩,rfl,⟨rfl,zL _⟩,⟨rfl,zL _⟩,trivial⟩
    .simp [g2,mdO]
     refine ⟨k + 1,hlk,hmu3,hw3,zFo _ _,zFo _ _,?_⟩
     have e1 : ((mdE (M k)).map (fun kv=>(kv.1,AV.cut 9 kv.2))).set j (.string y.name,.agg [.p (.v (.bool true))]) = mdE (M (k + 1)):=by rw [zQN,hmk]; rw [g3]
     rw [e1]
     show wkL [nlO f3.length,AObj.cut 9 (rwO f3),.cells (itU x) 42,.map (mdE (M (k + 1))),.cells [.ptr 0 3 0,.mp 0 6,I 0,I 0] 126,.cells [.ptr 0 7 0] 120] _
     rw [zMY];exact ⟨⟨rfl,zL _⟩,⟨⟨rfl,rfl,rfl⟩,zL _⟩,⟨rfl,zL _⟩,rfl,⟨rfl,zL _⟩,⟨rfl,zL _⟩,trivial⟩
   .have hlk' : ¬ (k : Int) < (x.fields.length : Int):=by omega
    have hk2 : k = x.fields.length:=by omega
    subst hk2;simp [levF,lev,fnO,c0F]
    obtain ⟨σ,hσ⟩ : ∃ σ : Nf,σ = ⟨M x.fields.length,x.fields.length,0,f3⟩:=⟨_,rfl⟩
    obtain ⟨τ,hτ⟩ : ∃ τ,τ = (St.nms p x.body σ).1.add (x.ret.nm p (St.nms p x.body σ).1.made):=⟨_,rfl⟩
    obtain ⟨g,hg2⟩ : ∃ g,g = Nf.undo (St.nms p x.body σ).2 τ:=⟨_,rfl⟩
    have hxw2:=hxx
    unfold It.whole at hxw2;rw [if_neg (by omega),if_pos h3] at hxw2
    simp only [Bool.and_eq_true] at hxw2
    have hbw : ∀ s ∈ x.body,s.whole 38 = true:=fun s hs=>List.all_eq_true.1 hxw2.2.2.2.2.2 s hs
    have hrw : x.ret.whole 38 = true:=hxw2.2.2.2.2.1
    have hnl:=(zCn p (l:=x.body) (fun s _ σ=>zDp p s σ) σ).1
    have hσl : σ.fl.length = f3.length:=by rw [hσ]
    have hbd : BdN σ (x.body.map St.nd).sum:=by
     rw [hσ];exact ⟨by simp only; omega,by simp only; omega,by simp only; omega⟩
    have hel : (St.nms p x.body σ).1.fl.length + x.ret.nd <= 4000000000:=by
     have:=hnl.2.1
     omega
    have hgb : g = zDE p x f3:=by rw [hg2,hτ,hσ,hMn]; rfl
    have hE : ∀ LL : List AObj,ADet Tryz.prog 62 (AV.ups 1 [.ptr 0 8 0,.ptr 0 5 0]) (LL :: updF (levF p x σ [.cells [.ptr 0 7 0] 120] :: L :: R) c0F (St.nms p x.body σ).1) .un (LL :: updF (levF p x σ [.cells [.ptr 0 7 0] 120] :: L :: R) c0F τ):=fun LL=>by
     rw [zI2,zI2,hτ];exact endK p x (St.nms p x.body σ).1 [] 38 hrw hel LL (L :: R)
    have hst:=zQJ p x.body (fun s hs=>zZh p hfl s 38 (hbw s hs)) σ hbd 62 [.ptr 0 8 0,.ptr 0 5 0] τ _ c0F (zUG p x σ [.cells [.ptr 0 7 0] 120] (L :: R)) hE
    rw [zI2,<- hg2] at hst
    have hgl : g.fl.length + 1 <= 4294967296:=by
     have:=(zKG p x f3).2.1
     rw [hgb];simp only at this;omega
    have hwg:=fun ext R=>(zDS p (decide (g.count <= 60)) 4 x.pos g.fl hgl).lev ext R
    have hit : F (q + 1) = g.fl ++ zI (decide (g.count <= 60)) 4 x.pos:=by
     rw [hF1];unfold zBJ;simp only;rw [ha,if_pos h3,hgb,hf3,hf2,hf1]
    have hst2:=hst
    rw [hσ] at hst;refine ⟨_,_,hst,?_⟩;simp [levF,lev,fnO,c0F];refine zA [] (by kernel_rfl) (by kernel_rfl) ?_
    have hdec : decide ((g.count : Int) <= 60) = decide (g.count <= 60):=decide_eq_decide.2 (by omega)
    simp [hdec];refine ⟨_,_,hwg [.cells (itU x) 42,mdO g.made,fnO c0F g,.cells [.ptr 0 7 0] 120] _,?_⟩;simp [lev,nlO]
    exact ⟨q + 1,hlt,hmu,hw2,zFo _ _,zFo _ _,by rw [hit]; simp,by
     rw [<- hit]
     show wkL [AObj.cut 5 (rwO (F (q + 1)))] [rwO (F (q + 1))]
     rw [zMY];exact ⟨⟨⟨rfl,rfl,rfl⟩,zL _⟩,trivial⟩⟩
  .have h3b : (x.kind == 3) = false:=by simpa using h3
   have hit : F (q + 1) = f2:=by
    rw [hF1];unfold zBJ;simp only;rw [ha,if_neg h3,hf2,hf1]
   simp [h3,h3b,nlO]
   exact ⟨q + 1,hlt,hmu,hw2,zFo _ _,zFo _ _,by rw [hit],by
     show wkL [AObj.cut 5 (rwO f2)] [rwO (F (q + 1))]
     rw [zMY,hit];exact ⟨⟨⟨rfl,rfl,rfl⟩,zL _⟩,trivial⟩⟩
 .have hlt' : ¬ (q : Int) < (p.length : Int):=by omega
  have hq2 : q = p.length:=by omega
  subst hq2;simp [lev];refine ⟨_,_,hmn _,?_⟩;rw [<- hck];simp [lev,nlO];simp [AV.mrg,Nat.add_comm]
theorem zYA (p : List It) (hg : great p = false) (hw : z6 p = true) (L : List AObj) (hLL : wkL L L) (R : ASt) : ADet Tryz.prog 24 [.agg [.p (prog p)]] (L :: R) (.rsl 0 (L.length + 4) (z7 p).length 2) ((L ++ [.dead,.dead,.dead,.dead,rwO (z7 p)]) :: R) :=
 zI3 p (zNR hg) (Nat.le_trans (zLJ hg) (by omega)) hw L hLL R
end Go.Proofs.YtlclonljdagpkaaGreatDoor
namespace Go.Proofs.YtlclonljdagpkaaGreatDoor
open Go.RowKit
attribute [local simp] List.replicate List.range List.range.loop resA zR retA
end Go.Proofs.YtlclonljdagpkaaGreatDoor
