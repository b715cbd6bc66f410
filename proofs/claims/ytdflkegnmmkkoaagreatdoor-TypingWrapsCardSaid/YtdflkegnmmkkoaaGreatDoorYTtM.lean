/- A part of the proof. -/
import Derived.Test.YtdflkegnmmkkoaaGreatDoorYNSc
set_option linter.unusedVariables false
set_option linter.unusedSimpArgs false
set_option maxRecDepth 100000
set_option maxHeartbeats 32000000
namespace Go.Proofs.YtdflkegnmmkkoaaGreatDoor
open Go.RowKit _root_.Go.Proofs.Tryz
attribute [local simp] List.replicate List.range List.range.loop
theorem zS6(p:List It)(hp:PrSm p)(env:List Fi)(he:zAg env)(hl:env.length<=4000000000)(x:Pl)(S:ASt):ADet Tryz.prog 23 [.agg [.p (prog p)],.p (.sl 4 (env.map Fi.enc)),plV x] S (zBI (zAS p env x)) S:=by
 have pC:=fun(A B C:AObj)=>zFP p hp env he hl x ([A,B,C,fnT p env]::S) 0 3 rfl
 simp only[fnT]at pC;refine ADet.intro mixed call23 func23 rfl ?_;simp[ntmps23];refine cq (pC _ _ _) ?_
 cases zAS p env x with
 |none=>simp[zBI]
 |some r=>
  obtain⟨t,w⟩:=r
  simp[zBI]
theorem zKu(p:List It)(hp:PrSm p)(env:List Fi)(he:zAg env)(hl:env.length<=4000000000)(op:Int)(x:Pl)(hx:PlSm x)(S:ASt):ADet Tryz.prog 15 [.agg [.p (prog p)],.p (.sl 4 (env.map Fi.enc)),.agg [U op,I 0,Sg emS,Sg emS,Sg x.name,.p (strs x.path),nilS,I 0]] S (payT (zEM p env (plE op x))) S:=by
 have hs:ExSm (plE op x):=.mk _ zFZ zFZ hx (by simp[plE,Ex.args]) (fun y hy=>by simp[plE,Ex.args]at hy)
 have:=zI3 p hp env he hl (plE op x) hs S
 refine ADet.sub (.cons (.refl _) (.cons (.refl _) (.cons (.agg ?_) (.refl _)))) this
 exact .cons (.refl _) (.cons (.refl _) (.cons (.refl _) (.cons (.refl _) (.cons (.refl _) (.cons (.refl _) (.cons (.p (.nil 8)) (.refl _)))))))
theorem zS7(k:Int)(t:Ty)(d i:Nat)(S:ASt):ADet Tryz.prog 16 [tyV (inTy k t),.agg [U k,Sg emS,.osl 3 [t.enc] d i]] S (B true) S:=by
 have:=zCb (inTy k t) (inTy k t) S
 rw[(zDn _ _).2 rfl]at this;exact ADet.sub (.cons (.refl _) (.cons (.agg (.cons (.refl _) (.cons (.refl _) (.cons (.osl (.refl _)) (.refl _))))) (.refl _))) this
theorem zNP(p:List It)(env:List Fi)(e:Ex)(S:ASt):ADet Tryz.prog 7 [.agg [.p (prog p)],.p (.sl 4 (env.map Fi.enc)),exV e] S (B true) S:=by
 have aC:=zKt
 have gC:=fun S=>zRl S p
 have lC:=fun S=>zNO env e S
 refine ADet.intro mixed call7 func7 rfl ?_;simp[ntmps7];refine cq (aC _) ?_;simp;refine cq (gC _) ?_
 cases hg:great p with
 |true=>simp
 |false=>
 simp;refine cq (lC _) ?_
 cases Zk:zI4 env e with
 |true=>simp
 |false=>
 obtain⟨Rc,Gb,Ub⟩:=zI5 Zk
 have hp:=zRp hg
 have he:zAg env:=fun f hf=>(Gb.2 f hf).2
 have Ia:PlSm e.place:=by obtain⟨_,_,_,h,_,_⟩:=Rc;exact h
 have wC:=fun S=>zBi e.place Ia S
 have pC:=fun S=>zS6 p hp env he (by omega) e.place S
 have x5:=fun S=>zKu p hp env he (by omega) 5 e.place Ia S
 have x6:=fun S=>zKu p hp env he (by omega) 6 e.place Ia S
 have x4:=fun S=>zKu p hp env he (by omega) 4 e.place Ia S
 have cC:=fun t S=>zLq t S
 have sI:=fun k t d i S=>zS7 k t d i S
 have sC:=fun t S=>zCb t t S
 simp;refine cq (wC _) ?_
 cases hw:e.place.whole with
 |false=>simp
 |true=>
 rw[zVH hw]at x5;rw[zaA hw]at x6;rw[zaB hw]at x4
 cases Of:zAS p env e.place with
 |none=>
  rw[Of]at pC x5 x6 x4;simp;refine cq (pC _) ?_;simp[zBI];refine cq (x5 _) ?_;simp[payT];refine cq (x6 _) ?_;simp[payT];refine cq (x4 _) ?_
  simp[payT]
 |some r=>
  obtain⟨t,w⟩:=r
  rw[Of]at pC x5 x6 x4
  have sC:=fun S=>sC t S
  rw[(zDn t t).2 rfl]at sC
  have sA:=fun d i S=>sI 13 t d i S
  have sB:=fun d i S=>sI 14 t d i S
  simp only[zc]at sA sB;rw[Option.map_some]at x5;rw[Option.bind_some]at x6 x4
  cases w with
  |true=>
   rw[if_pos rfl]at x6
   by_cases Lj:copT t=true
   .have Jd:t.copied=true:=Lj
    rw[if_pos (Or.inl Lj)]at x4;simp;refine cq (pC _) ?_;simp[zBI];refine cq (x5 _) ?_;simp[payT];refine cq (x6 _) ?_;simp[payT];refine cq (x4 _) ?_;simp[payT];refine cq (cC _ _) ?_;rw[Jd];simp;refine cq (sA _ _ _) ?_;simp;refine cq (sB _ _ _) ?_;simp;refine cq (sC _) ?_;simp
   have Jd:t.copied=false:=Bool.eq_false_iff.2 Lj
   by_cases sf:e.place.path.length=0
   .have Gg:e.place.path=[]:=List.eq_nil_of_length_eq_zero sf
    rw[if_pos (Or.inr sf)]at x4;simp;refine cq (pC _) ?_;simp[zBI];refine cq (x5 _) ?_;simp[payT];refine cq (x6 _) ?_;simp[payT];refine cq (x4 _) ?_;simp[payT];refine cq (cC _ _) ?_;rw[Jd];simp[strs,Gg];refine cq (sA _ _ _) ?_;simp;refine cq (sB _ _ _) ?_;simp;refine cq (sC _) ?_;simp
   have Hg:¬(e.place.path.length:Int)=0:=by omega
   have nl:((e.place.path.length:Int)==0)=false:=by simpa using Hg
   have ol:e.place.path≠ []:=fun h=>sf (by rw[h];rfl)
   rw[if_neg (fun h=>h.elim Lj sf)]at x4
   simp;refine cq (pC _) ?_;simp[zBI];refine cq (x5 _) ?_;simp[payT];refine cq (x6 _) ?_;simp[payT];refine cq (x4 _) ?_;simp[payT];refine cq (cC _ _) ?_;rw[Jd];simp[strs,Hg,nl,ol];refine cq (sA _ _ _) ?_;simp;refine cq (sB _ _ _) ?_
   simp
  |false=>
   rw[if_neg (by simp)]at x6
   by_cases Lj:copT t=true
   .have Jd:t.copied=true:=Lj
    rw[if_pos (Or.inl Lj)]at x4;simp;refine cq (pC _) ?_;simp[zBI];refine cq (x5 _) ?_;simp[payT];refine cq (x6 _) ?_;simp[payT];refine cq (x4 _) ?_;simp[payT];refine cq (cC _ _) ?_;rw[Jd];simp;refine cq (sA _ _ _) ?_;simp;refine cq (sC _) ?_;simp
   have Jd:t.copied=false:=Bool.eq_false_iff.2 Lj
   by_cases sf:e.place.path.length=0
   .have Gg:e.place.path=[]:=List.eq_nil_of_length_eq_zero sf
    rw[if_pos (Or.inr sf)]at x4;simp;refine cq (pC _) ?_;simp[zBI];refine cq (x5 _) ?_;simp[payT];refine cq (x6 _) ?_;simp[payT];refine cq (x4 _) ?_;simp[payT];refine cq (cC _ _) ?_;rw[Jd];simp[strs,Gg];refine cq (sA _ _ _) ?_;simp;refine cq (sC _) ?_;simp
   have Hg:¬(e.place.path.length:Int)=0:=by omega
   have nl:((e.place.path.length:Int)==0)=false:=by simpa using Hg
   have ol:e.place.path≠ []:=fun h=>sf (by rw[h];rfl)
   rw[if_neg (fun h=>h.elim Lj sf)]at x4
   simp;refine cq (pC _) ?_;simp[zBI];refine cq (x5 _) ?_;simp[payT];refine cq (x6 _) ?_;simp[payT];refine cq (x4 _) ?_;simp[payT];refine cq (cC _ _) ?_;rw[Jd];simp[strs,Hg,nl,ol];refine cq (sA _ _ _) ?_;simp
end Go.Proofs.YtdflkegnmmkkoaaGreatDoor
