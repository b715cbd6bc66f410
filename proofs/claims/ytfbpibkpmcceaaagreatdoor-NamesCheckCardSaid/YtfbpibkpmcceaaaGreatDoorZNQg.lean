/- A part of the proof. The statement is proved in the claim's last text. -/
import Derived.Test.YtfbpibkpmcceaaaGreatDoorZNQf
import Derived.Test.YtfbpibkpmcceaaaGreatDoorZNPg
import Derived.Test.YtfbpibkpmcceaaaGreatDoorZMRv
set_option linter.unusedVariables false
set_option linter.unusedSimpArgs false
set_option maxRecDepth 100000
set_option maxHeartbeats 32000000
namespace Go.Proofs.YtfbpibkpmcceaaaGreatDoor
open Go.RowKit
attribute [local simp] List.replicate List.range List.range.loop resA resOne retA AV.cuts AV.cut AObj.cut trim wkR wkT wkL wkN wkNR wkNL wkM wkMR wkML
theorem itemsR_app (p : List It) : ∀ (a b : List It) (i : Nat) (fl : List Flt),itemsR p i (a ++ b) fl = itemsR p (i + a.length) b (itemsR p i a fl)
 | [],b,i,fl=>rfl
 | x :: a,b,i,fl=>by
  rw [List.cons_append,itemsR,itemsR,itemsR_app p a b,List.length_cons]
  congr 1
  omega
theorem itemR_len (p : List It) (q : Nat) (x : It) (fl : List Flt) : (itemR p q x fl).length ≤ fl.length + x.nd:=by
 have h1:=wrongN_len (decide (findIx p (decide (x.kind = 3)) x.name = some q)) 60 x.pos
 have h2:=fieldsR_len p x.pos x.fields []
 have h3:=tyNm_len p x.pos x.result
 obtain ⟨a,ha⟩ : ∃ a,a = (fl ++ wrongL (decide (findIx p (decide (x.kind = 3)) x.name = some q)) 60 x.pos) ++ fieldsR p x.pos [] x.fields:=⟨_,rfl⟩
 have hal : a.length ≤ fl.length + 1 + (x.fields.map Fi.nd).sum:=by rw [ha]; simp only [List.length_append]; omega
 have h4:=nearW_list p (l:=x.body) (fun s _ w=>nearW_st p s w) ⟨x.fields.map fun f=>(f.name,true),0,a ++ x.result.nm p x.pos⟩
 have h4' : NearW ⟨x.fields.map fun f=>(f.name,true),0,a ++ x.result.nm p x.pos⟩ (x.body.map St.nd).sum (bodyR p x (a ++ x.result.nm p x.pos)):=h4
 have h5:=wrongN_len (decide ((bodyR p x (a ++ x.result.nm p x.pos)).vars.length ≤ 60)) 4 x.pos
 have h6:=exRf_len p (bodyR p x (a ++ x.result.nm p x.pos)).vars x.ret
 have h7:=h4'.2.1
 unfold itemR It.nd
 simp only
 rw [← ha]
 split
 ·simp only [List.length_append] at *
  omega
 ·omega
theorem itemsR_len (p : List It) : ∀ (l : List It) (q : Nat) (fl : List Flt),(itemsR p q l fl).length ≤ fl.length + (l.map It.nd).sum
 | [],q,fl=>Nat.le_refl _
 | x :: l,q,fl=>by
  have h1:=itemsR_len p l (q + 1) (itemR p q x fl)
  have h2:=itemR_len p q x fl
  rw [itemsR,List.map_cons,List.sum_cons]
  omega
theorem checkRW (p : List It) (hg : great p = false) (hnn : ∀ x ∈ p,ItNn x) (hw : prWhole p = true) (L : List AObj) (hLL : wkL L L) (R : ASt) : ADet Tryz.prog 10 [.agg [.p (prog p)]] (L :: R) (.rsl 0 (L.length + 2) (checkR p).length 2) ((L ++ [.dead,.dead,rwO (checkR p)]) :: R):=by
 have hnd:=pr_nd hg
 have hp : p.length ≤ 20000:=by
  have key : ∀ l : List It,l.length ≤ (l.map It.nd).sum:=fun l=>by
   induction l with
   | nil=>simp
   | cons x l ih=>rw [List.length_cons,List.map_cons,List.sum_cons]; unfold It.nd; unfold It.nd at ih; omega
  have:=key p
  omega
 have hwc:=fun S=>r3WholeC p (pr_sm hg) hnn S
 rw [hw] at hwc
 refine ADet.after (S':=(L ++ [.cells [.p (.sl 16 (p.map It.enc))] 24,wkC p ⟨0,0,1,.any,.any⟩ (checkR p).length,rwO (checkR p)].map (AObj.mrg L.length)) :: R) ⟨wkL_right hLL ?_,rfl⟩ ?_
 ·show wkL [AObj.mrg L.length (rwO (checkR p))] [rwO (checkR p)]
  rw [rw_mrg]
  exact ⟨⟨⟨rfl,rfl,rfl⟩,wkR_refl _⟩,trivial⟩
 refine ADet.merge mixed Tryz.call10 Tryz.func10 rfl ?_
 simp [Tryz.ntmps10]
 refine ⟨_,_,hwc _,?_⟩
 simp [prog]
 have hlen : p.length ≤ maxLen:=by unfold maxLen; omega
 have hfl : ∀ x ∈ p,x.fields.length ≤ 20000:=fun x hx=>by
  have key : ∀ l : List Fi,l.length ≤ (l.map Fi.nd).sum:=fun l=>by
   induction l with
   | nil=>simp
   | cons x l ih=>rw [List.length_cons,List.map_cons,List.sum_cons]; unfold Fi.nd; unfold Fi.nd at ih; omega
  have h1:=key x.fields
  have h2 : x.nd ≤ (p.map It.nd).sum:=by
   obtain ⟨q,hq,rfl⟩:=List.mem_iff_getElem.1 hx
   have:=sum_mem It.nd hq
   omega
  unfold It.nd at h2
  unfold It.nd at hnd
  omega
 have hxw : ∀ x ∈ p,x.whole 39 = true:=by
  unfold prWhole allUp at hw
  simp only [Bool.and_eq_true,decide_eq_true_eq] at hw
  rw [List.take_of_length_le (by omega)] at hw
  exact List.all_eq_true.1 hw.2
 obtain ⟨F,hF⟩ : ∃ F : Nat → List Flt,F = fun q=>itemsR p 0 (p.take q) []:=⟨_,rfl⟩
 have hF0 : F 0 = []:=by rw [hF]; rfl
 have hFn : F p.length = itemsR p 0 p []:=by rw [hF]; simp
 have hFs : ∀ q (hq : q < p.length),F (q + 1) = itemR p q p[q] (F q):=fun q hq=>by
  rw [hF]
  simp only [List.take_succ_eq_append_getElem hq,itemsR_app,List.length_take,Nat.min_eq_left (Nat.le_of_lt hq),Nat.zero_add]
  rfl
 have hFb : ∀ q (hq : q < p.length),(F q).length + p[q].nd ≤ 20000:=fun q hq=>by
  have e1:=sum_mem It.nd hq
  have e2:=itemsR_len p (p.take q) 0 []
  rw [hF]
  simp only [List.length_nil] at e2 ⊢
  omega
 have hck : checkR p = F p.length ++ wrongL (mainB p mainS) 62 0:=by unfold checkR; rw [if_pos hw,hFn]
 clear hF
 refine awp_loopR 32 2 (by decide) [.cells [.p (.sl 16 (p.map It.enc))] 24,wkC p ⟨0,0,1,.any,.any⟩ 0] (fun q : Nat=>q ≤ p.length) (fun q=>([.any,.ptr 0 0 0,.any,.ptr 0 1 0,I q] ++ List.replicate 49 .any)) (fun q=>[.cells [.p (.sl 16 (p.map It.enc))] 24,wkC p ⟨0,0,1,.any,.any⟩ (F q).length,rwO (F q)] :: L :: R) (fun q=>p.length - q) (fun _=>3) 0 (Nat.zero_le _) ?_ ?_ ?_ ?_ ?_
 ·intro q _; simp
 ·simp
 ·exact ⟨⟨rfl,.inr (.inl rfl),trivial⟩,⟨rfl,.inr (.inl rfl),.inr (.inr ⟨rfl,rfl⟩),.inl rfl,.inl rfl,trivial⟩,trivial⟩
 ·rw [hF0]; rfl
 intro q hq
 by_cases hlt : q < p.length
 ·have hlt' : (q : Int) < (p.length : Int):=by omega
  have hw2:=wrap_succ hlt hlen
  have hmu : p.length - (q + 1) < p.length - q:=by omega
  have hit:=ADet.ghostR (L:=[.cells [.p (.sl 16 (p.map It.enc))] 24,wkC p ⟨0,0,1,.any,.any⟩ (F q).length,rwO (F q)]) 117 2 (by decide) (itemW p hp hfl q hlt (hxw _ (List.getElem_mem hlt)) (F q) (hFb q hlt) (L :: R))
  rw [← hFs q hlt] at hit
  simp [hlt,hlt']
  refine ⟨_,_,hit,?_⟩
  simp [levI]
  refine ⟨q + 1,hlt,hmu,hw2,?_⟩
  show wkL [wkC p ⟨0,0,1,.any,.any⟩ (F (q + 1)).length,AObj.cut 3 (rwO (F (q + 1)))] _
  rw [rw_cut]
  exact ⟨⟨rfl,wkR_refl _⟩,⟨⟨rfl,rfl,rfl⟩,wkR_refl _⟩,trivial⟩
 ·have hlt' : ¬ (q : Int) < (p.length : Int):=by omega
  have hq2 : q = p.length:=by omega
  subst hq2
  have hfl1 : (F p.length).length + 1 ≤ 4294967296:=by
   have:=itemsR_len p p 0 []
   rw [hFn]
   simp only [List.length_nil] at this
   omega
  have hwr : ∀ R' : ASt,ADet Tryz.prog 37 [.ptr 0 1 0,I 62,I 0] ([.cells [.p (.sl 16 (p.map It.enc))] 24,wkC p ⟨0,0,1,.any,.any⟩ (F p.length).length,rwO (F p.length)] :: R') .un ([.cells [.p (.sl 16 (p.map It.enc))] 24,wkC p ⟨0,0,1,.any,.any⟩ (F p.length ++ [((62 : Int),(0 : Int))]).length,rwO (F p.length ++ [((62 : Int),(0 : Int))])] :: R'):=fun R' =>
   wrongQ p 62 0 (F p.length) hfl1 ([.cells [.p (.sl 16 (p.map It.enc))] 24,wkC p ⟨0,0,1,.any,.any⟩ (F p.length).length,rwO (F p.length)] :: R') ⟨0,0,1,.any,.any⟩ ⟨rfl,rfl,fun _=>by simp⟩
  have hfc:=fun S=>findC p hp true mainS S
  simp only [if_true,prog] at hfc
  have hB : mainB p mainS = (match fnIt p mainS with | some x=>decide (x.fields.length = 0) && decide (x.result.kind = 1) | none=>false):=rfl
  have hms : mainS = (⟨#[109,97,105,110]⟩ : ByteArray):=rfl
  rw [hms] at hfc
  simp [hlt']
  refine ⟨_,_,hfc _,?_⟩
  rw [← hms]
  rcases find_fx (p:=p) (s:=mainS) with ⟨e1,e2⟩ | ⟨i,hi,e1,e2⟩
  ·rw [e2] at hB
   have hck2 : checkR p = F p.length ++ [(62,0)]:=by rw [hck,hB]; rfl
   rw [hck2]
   simp [e1,ixV]
   refine ⟨_,_,hwr _,?_⟩
   simp [wkC]
   simp [AV.mrg,Nat.add_comm]
  ·rw [e2] at hB
   have hi' : (i : Int) < (p.length : Int):=by omega
   have hi0 : ¬ (i : Int) < 0:=by omega
   simp only at hB
   generalize hy : p[i] = y at *
   by_cases h1 : y.fields.length = 0
   ·have h1' : ¬ (0 : Int) < (y.fields.length : Int):=by omega
    by_cases h2 : y.result.kind = 1
    ·have hck2 : checkR p = F p.length:=by rw [hck,hB,decide_eq_true h1,decide_eq_true h2]; simp [wrongL]
     rw [hck2]
     simp [e1,ixV,hi,hi',hi0,hy,It.enc,h1,h1',h2,wkC]
     simp [AV.mrg,Nat.add_comm]
    ·have h2' : (y.result.kind == 1) = false:=by simpa using h2
     have hck2 : checkR p = F p.length ++ [(62,0)]:=by rw [hck,hB,decide_eq_true h1,decide_eq_false h2]; rfl
     rw [hck2]
     simp [e1,ixV,hi,hi',hi0,hy,It.enc,h1,h1',h2,h2',wkC]
     refine ⟨_,_,hwr _,?_⟩
     simp [wkC]
     simp [AV.mrg,Nat.add_comm]
   ·have h1' : 0 < y.fields.length:=by omega
    have hck2 : checkR p = F p.length ++ [(62,0)]:=by rw [hck,hB,decide_eq_false h1]; rfl
    rw [hck2]
    simp [e1,ixV,hi,hi',hi0,hy,It.enc,h1,h1',wkC]
    refine ⟨_,_,hwr _,?_⟩
    simp [wkC]
    simp [AV.mrg,Nat.add_comm]
theorem checkRZ (p : List It) (hg : great p = false) (hnn : ∀ x ∈ p,ItNn x) (hw : prWhole p = false) (L : List AObj) (hLL : wkL L L) (R : ASt) : ADet Tryz.prog 10 [.agg [.p (prog p)]] (L :: R) (.rsl 0 (L.length + 1) (checkR p).length 2) ((L ++ [.dead,rwO (checkR p)]) :: R):=by
 have hwc:=fun S=>r3WholeC p (pr_sm hg) hnn S
 rw [hw] at hwc
 have hck : checkR p = [(2,0)]:=by unfold checkR; rw [if_neg (by rw [hw]; simp)]
 rw [hck]
 refine ADet.after (S':=(L ++ [.cells [.p (prog p)] 24,rwO [(2,0)]]) :: R) ⟨wkL_right hLL ?_,rfl⟩ ?_
 ·exact ⟨⟨⟨rfl,rfl,rfl⟩,wkR_refl _⟩,trivial⟩
 refine ADet.merge mixed Tryz.call10 Tryz.func10 rfl ?_
 simp [Tryz.ntmps10]
 refine ⟨_,_,hwc _,?_⟩
 simp
 exact ⟨by simp [AV.mrg,Nat.add_comm],rfl,rfl⟩
end Go.Proofs.YtfbpibkpmcceaaaGreatDoor
