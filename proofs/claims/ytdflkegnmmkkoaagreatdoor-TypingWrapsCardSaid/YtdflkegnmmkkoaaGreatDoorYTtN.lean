/- A part of the proof. -/
import Derived.Test.YtdflkegnmmkkoaaGreatDoorYTtM
set_option linter.unusedVariables false
set_option linter.unusedSimpArgs false
set_option maxRecDepth 100000
set_option maxHeartbeats 32000000
namespace Go.Proofs.YtdflkegnmmkkoaaGreatDoor
open Go.RowKit
attribute [local simp] List.replicate List.range List.range.loop List.forall_mem_cons List.contains_cons List.contains_nil List.find?
abbrev pN:PV:=.v (.slice none 0 0)
theorem zGb{k:Int}{e:Ex}(h:ExSm e):ExSm (zAL k e):=.mk _ zFZ zFZ ⟨zFZ,by simp[zAL,Ex.place],by simp[zAL,Ex.place]⟩ (by simp[zAL,Ex.args]) (fun x hx=>by
 simp only[zAL,Ex.args,List.mem_singleton]at hx;subst hx;exact h)
abbrev wrV(k:Int)(row:List PV)(d i:Nat):AV:=.agg [U k,I 0,Sg emS,Sg emS,Sg emS,nilS,.osl 8 [row] d i,I 0]
abbrev wrR(k:Int)(row:List PV):List PV:=[pU k,pI 0,pS emS,pS emS,pS emS,pN,.sl 8 [row],pI 0]
theorem za4(k:Int)(e:Ex)(d i:Nat):LeA (wrV k e.enc d i) (exV (zAL k e)):=.agg (.cons (.refl _) (.cons (.refl _) (.cons (.refl _) (.cons (.refl _) (.cons (.refl _) (.cons (.p (.nil 1)) (.cons (.osl (.refl _)) (.refl _))))))))
theorem za5(k:Int)(e:Ex):LeRow (wrR k e.enc) (zAL k e).enc:=by
 rw[zf (zAL k e)];exact .cons (.refl _) (.cons (.refl _) (.cons (.refl _) (.cons (.refl _) (.cons (.refl _) (.cons (.nil 1) (.refl _))))))
theorem zWL(u k:Int)(e:Ex)(d i:Nat):LeA (wrV u (wrR k e.enc) d i) (exV (zAL u (zAL k e))):=.agg (.cons (.refl _) (.cons (.refl _) (.cons (.refl _) (.cons (.refl _) (.cons (.refl _) (.cons (.p (.nil 1)) (.cons (.osl (.cons (za5 k e) (.refl _))) (.refl _))))))))
theorem zMG(p:List It)(env:List Fi)(e:Ex)(S:ASt):ADet Tryz.prog 5 [.agg [.p (prog p)],.p (.sl 4 (env.map Fi.enc)),exV e] S (B true) S:=by
 have aC:=zKt
 have gC:=fun S=>zRl S p
 have lC:=fun S=>zNO env e S
 refine ADet.intro mixed Tryz.call5 Tryz.func5 rfl ?_;simp[Tryz.ntmps5];refine cq (aC _) ?_;simp;refine cq (gC _) ?_
 cases hg:great p with
 |true=>simp
 |false=>
 simp;refine cq (lC _) ?_
 cases Zk:zI4 env e with
 |true=>simp
 |false=>
 obtain⟨Rc,Gb,Ub⟩:=zI5 Zk
 have hp:=zRp hg
 have he:zAg env:=fun f hf=>(Gb.2 f hf).2
 have xC:=fun S=>zI3 p hp env he (by omega) e Rc S
 have wC:=fun u k d i S=>ADet.sub (.cons (zWL u k e d i) (.refl _)) (zFj (zAL u (zAL k e)) (zGb (zGb Rc)) S)
 have xF:=fun k d i S=>ADet.sub (.cons (.refl _) (.cons (.refl _) (.cons (za4 k e d i) (.refl _)))) (zI3 p hp env he (by omega) (zAL k e) (zGb Rc) S)
 have xG:=fun u k d i S=>ADet.sub (.cons (.refl _) (.cons (.refl _) (.cons (zWL u k e d i) (.refl _)))) (zI3 p hp env he (by omega) (zAL u (zAL k e)) (zGb (zGb Rc)) S)
 simp only[zf]at wC xF xG
 have oC:=fun t S=>zHe t S
 have sI:=fun k t d i S=>zS7 k t d i S
 simp only[zc]at sI
 have sC:=fun t S=>zCb t t S
 simp;refine cq (xC _) ?_
 cases hx:zEM p env e with
 |none=>
  simp[payT];refine zF (fun q:Nat=>q<=4) (fun q=>([.any,.p (.sl 4 (env.map Fi.enc)),.any,.ptr 0 0 0,.any,.ptr 0 1 0,.any,.ptr 0 2 0,B false,.osl 1 [[pU 21],[pU 26],[pU 27],[pU 29]] 0 3,.osl 1 [[pU 5],[pU 7],[pU 8],[pU 9]] 0 4,I q]++List.replicate 100 .any)) (fun q=>[.cells [.p (prog p)] 24,.cells [U e.op,I e.int,Sg e.name,Sg e.u2,Sg e.place.name,.p (strs e.place.path),.p (.sl 8 (e.args.map Ex.enc)),I e.pos] 43,.cells [U 0,Sg emS,nilS] 36,.tok 5 1 4,.tok 5 1 4]::S) (fun q=>4-q) 0 (Nat.zero_le _) ?_ ?_ ?_
  .simp
  .simp
  intro q hq
  by_cases ng:q=0
  .subst ng
   have wC:=wC 22 21
   have xF:=xF 21
   have xG:=xG 22 21
   have w1:=fun h=>zC0 (p:=p) (env:=env) (k:=21) (e:=e) (by decide) (zA0 (k:=22) (by decide) h)
   have w2:=zCF (p:=p) (env:=env) (u:=22) (f:=zAL 21 e) (by decide)
   rw[hx]at w1;simp;refine zAs [(7,8,12)] [(3,5)] (by kernel_rfl) (by kernel_rfl) (by kernel_rfl) (by simp) ?_
   simp;refine cq (wC _ _ _) ?_
   cases Za:zo (zAL 22 (zAL 21 e))with
   |false=>simp
   |true=>
   have w1:=w1 Za
   have w2:=w2 Za
   rw[Option.bind_none]at w1;rw[w1,Option.bind_none]at w2;rw[w1]at xF;rw[w2]at xG;simp;refine cq (xF _ _ _) ?_;simp[payT];refine dB [(10,16),(14,16)] (by kernel_rfl) ?_
   simp;refine cq (xG _ _ _) ?_;simp[payT];exact⟨1,by decide,by decide,by decide⟩
  by_cases mi:q=1
  .subst mi
   have wC:=wC 22 26
   have xF:=xF 26
   have xG:=xG 22 26
   have w1:=fun h=>zC0 (p:=p) (env:=env) (k:=26) (e:=e) (by decide) (zA0 (k:=22) (by decide) h)
   have w2:=zCF (p:=p) (env:=env) (u:=22) (f:=zAL 26 e) (by decide)
   rw[hx]at w1;simp;refine zAs [(7,8,12)] [(3,5)] (by kernel_rfl) (by kernel_rfl) (by kernel_rfl) (by simp) ?_
   simp;refine cq (wC _ _ _) ?_
   cases Za:zo (zAL 22 (zAL 26 e))with
   |false=>simp
   |true=>
   have w1:=w1 Za
   have w2:=w2 Za
   rw[Option.bind_none]at w1;rw[w1,Option.bind_none]at w2;rw[w1]at xF;rw[w2]at xG;simp;refine cq (xF _ _ _) ?_;simp[payT];refine dB [(10,16),(14,16)] (by kernel_rfl) ?_
   simp;refine cq (xG _ _ _) ?_;simp[payT];exact⟨2,by decide,by decide,by decide⟩
  by_cases Oa:q=2
  .subst Oa
   have wC:=wC 22 27
   have xF:=xF 27
   have xG:=xG 22 27
   have w1:=fun h=>zC0 (p:=p) (env:=env) (k:=27) (e:=e) (by decide) (zA0 (k:=22) (by decide) h)
   have w2:=zCF (p:=p) (env:=env) (u:=22) (f:=zAL 27 e) (by decide)
   rw[hx]at w1;simp;refine zAs [(7,8,12)] [(3,5)] (by kernel_rfl) (by kernel_rfl) (by kernel_rfl) (by simp) ?_
   simp;refine cq (wC _ _ _) ?_
   cases Za:zo (zAL 22 (zAL 27 e))with
   |false=>simp
   |true=>
   have w1:=w1 Za
   have w2:=w2 Za
   rw[Option.bind_none]at w1;rw[w1,Option.bind_none]at w2;rw[w1]at xF;rw[w2]at xG;simp;refine cq (xF _ _ _) ?_;simp[payT];refine dB [(10,16),(14,16)] (by kernel_rfl) ?_
   simp;refine cq (xG _ _ _) ?_;simp[payT];exact⟨3,by decide,by decide,by decide⟩
  by_cases Cj:q=3
  .subst Cj
   have wC:=wC 30 29
   have xF:=xF 29
   have xG:=xG 30 29
   have w1:=fun h=>zC0 (p:=p) (env:=env) (k:=29) (e:=e) (by decide) (zA0 (k:=30) (by decide) h)
   have w2:=zCF (p:=p) (env:=env) (u:=30) (f:=zAL 29 e) (by decide)
   rw[hx]at w1;simp;refine zAs [(7,8,12)] [(3,5)] (by kernel_rfl) (by kernel_rfl) (by kernel_rfl) (by simp) ?_
   simp;refine cq (wC _ _ _) ?_
   cases Za:zo (zAL 30 (zAL 29 e))with
   |false=>simp
   |true=>
   have w1:=w1 Za
   have w2:=w2 Za
   rw[Option.bind_none]at w1;rw[w1,Option.bind_none]at w2;rw[w1]at xF;rw[w2]at xG;simp;refine cq (xF _ _ _) ?_;simp[payT];refine dB [(10,16),(14,16)] (by kernel_rfl) ?_
   simp;refine cq (xG _ _ _) ?_;simp[payT];exact⟨4,by decide,by decide,by decide⟩
  obtain rfl:q=4:=by omega
  simp
 |some t=>
  simp[payT]
  by_cases ma:t.owned=true
  .have gg:t.owned=true:=ma
   refine zF (fun q:Nat=>q<=4) (fun q=>([.any,.p (.sl 4 (env.map Fi.enc)),.any,.ptr 0 0 0,.any,.ptr 0 1 0,.any,.ptr 0 2 0,B true,.osl 1 [[pU 21],[pU 26],[pU 27],[pU 29]] 0 3,.osl 1 [[pU 5],[pU 7],[pU 8],[pU 9]] 0 4,I q]++List.replicate 100 .any)) (fun q=>[.cells [.p (prog p)] 24,.cells [U e.op,I e.int,Sg e.name,Sg e.u2,Sg e.place.name,.p (strs e.place.path),.p (.sl 8 (e.args.map Ex.enc)),I e.pos] 43,.cells [U t.kind,Sg t.name,.p (.sl 3 (t.args.map Ty.enc))] 36,.tok 5 1 4,.tok 5 1 4]::S) (fun q=>4-q) 0 (Nat.zero_le _) ?_ ?_ ?_
   .simp
   .simp
   intro q hq
   by_cases ng:q=0
   .subst ng
    have wC:=wC 22 21
    have xF:=xF 21
    have xG:=xG 22 21
    have w1:=fun h=>zC0 (p:=p) (env:=env) (k:=21) (e:=e) (by decide) (zA0 (k:=22) (by decide) h)
    have w2:=zCF (p:=p) (env:=env) (u:=22) (f:=zAL 21 e) (by decide)
    rw[hx]at w1;simp;refine zAs [(7,8,12)] [(3,5)] (by kernel_rfl) (by kernel_rfl) (by kernel_rfl) (by simp) ?_
    simp;refine cq (wC _ _ _) ?_
    cases Za:zo (zAL 22 (zAL 21 e))with
    |false=>simp
    |true=>
    have w1:=w1 Za
    have w2:=w2 Za
    rw[Option.bind_some,if_pos ma,show zAa 21=5 from rfl]at w1
    rw[w1,Option.bind_some,if_pos ⟨rfl,rfl⟩,show(inTy 5 t).args.headD zTy=t from rfl]at w2
    rw[w1]at xF;rw[w2]at xG;simp;refine cq (xF _ _ _) ?_;simp[payT];refine dB [(10,16),(14,16)] (by kernel_rfl) ?_
    simp;refine cq (oC _ _) ?_;rw[gg];simp;refine cq (sI _ _ _ _ _) ?_;simp;refine cq (xG _ _ _) ?_;simp[payT];refine cq (by have:=sC t;rw[(zDn t t).2 rfl]at this;exact this _) ?_
    simp;exact⟨1,by decide,by decide,by decide⟩
   by_cases mi:q=1
   .subst mi
    have wC:=wC 22 26
    have xF:=xF 26
    have xG:=xG 22 26
    have w1:=fun h=>zC0 (p:=p) (env:=env) (k:=26) (e:=e) (by decide) (zA0 (k:=22) (by decide) h)
    have w2:=zCF (p:=p) (env:=env) (u:=22) (f:=zAL 26 e) (by decide)
    rw[hx]at w1;simp;refine zAs [(7,8,12)] [(3,5)] (by kernel_rfl) (by kernel_rfl) (by kernel_rfl) (by simp) ?_
    simp;refine cq (wC _ _ _) ?_
    cases Za:zo (zAL 22 (zAL 26 e))with
    |false=>simp
    |true=>
    have w1:=w1 Za
    have w2:=w2 Za
    rw[Option.bind_some,if_pos ma,show zAa 26=7 from rfl]at w1
    rw[w1,Option.bind_some,if_neg (fun h=>absurd h.1 (by show ¬(7:Int)=5;decide))]at w2
    rw[w1]at xF;rw[w2]at xG;simp;refine cq (xF _ _ _) ?_;simp[payT];refine dB [(10,16),(14,16)] (by kernel_rfl) ?_
    simp;refine cq (oC _ _) ?_;rw[gg];simp;refine cq (sI _ _ _ _ _) ?_;simp;refine cq (xG _ _ _) ?_;simp[payT];exact⟨2,by decide,by decide,by decide⟩
   by_cases Oa:q=2
   .subst Oa
    have wC:=wC 22 27
    have xF:=xF 27
    have xG:=xG 22 27
    have w1:=fun h=>zC0 (p:=p) (env:=env) (k:=27) (e:=e) (by decide) (zA0 (k:=22) (by decide) h)
    have w2:=zCF (p:=p) (env:=env) (u:=22) (f:=zAL 27 e) (by decide)
    rw[hx]at w1;simp;refine zAs [(7,8,12)] [(3,5)] (by kernel_rfl) (by kernel_rfl) (by kernel_rfl) (by simp) ?_
    simp;refine cq (wC _ _ _) ?_
    cases Za:zo (zAL 22 (zAL 27 e))with
    |false=>simp
    |true=>
    have w1:=w1 Za
    have w2:=w2 Za
    rw[Option.bind_some,if_pos ma,show zAa 27=8 from rfl]at w1
    rw[w1,Option.bind_some,if_neg (fun h=>absurd h.1 (by show ¬(8:Int)=5;decide))]at w2
    rw[w1]at xF;rw[w2]at xG;simp;refine cq (xF _ _ _) ?_;simp[payT];refine dB [(10,16),(14,16)] (by kernel_rfl) ?_
    simp;refine cq (oC _ _) ?_;rw[gg];simp;refine cq (sI _ _ _ _ _) ?_;simp;refine cq (xG _ _ _) ?_;simp[payT];exact⟨3,by decide,by decide,by decide⟩
   by_cases Cj:q=3
   .subst Cj
    have wC:=wC 30 29
    have xF:=xF 29
    have xG:=xG 30 29
    have w1:=fun h=>zC0 (p:=p) (env:=env) (k:=29) (e:=e) (by decide) (zA0 (k:=30) (by decide) h)
    have w2:=zCF (p:=p) (env:=env) (u:=30) (f:=zAL 29 e) (by decide)
    rw[hx]at w1;simp;refine zAs [(7,8,12)] [(3,5)] (by kernel_rfl) (by kernel_rfl) (by kernel_rfl) (by simp) ?_
    simp;refine cq (wC _ _ _) ?_
    cases Za:zo (zAL 30 (zAL 29 e))with
    |false=>simp
    |true=>
    have w1:=w1 Za
    have w2:=w2 Za
    rw[Option.bind_some,if_pos ma,show zAa 29=9 from rfl]at w1
    rw[w1,Option.bind_some,if_pos ⟨rfl,rfl⟩,show(inTy 9 t).args.headD zTy=t from rfl]at w2
    rw[w1]at xF;rw[w2]at xG;simp;refine cq (xF _ _ _) ?_;simp[payT];refine dB [(10,16),(14,16)] (by kernel_rfl) ?_
    simp;refine cq (oC _ _) ?_;rw[gg];simp;refine cq (sI _ _ _ _ _) ?_;simp;refine cq (xG _ _ _) ?_;simp[payT];refine cq (by have:=sC t;rw[(zDn t t).2 rfl]at this;exact this _) ?_
    simp;exact⟨4,by decide,by decide,by decide⟩
   obtain rfl:q=4:=by omega
   simp
  have gg:t.owned=false:=by simpa using ma
  refine zF (fun q:Nat=>q<=4) (fun q=>([.any,.p (.sl 4 (env.map Fi.enc)),.any,.ptr 0 0 0,.any,.ptr 0 1 0,.any,.ptr 0 2 0,B true,.osl 1 [[pU 21],[pU 26],[pU 27],[pU 29]] 0 3,.osl 1 [[pU 5],[pU 7],[pU 8],[pU 9]] 0 4,I q]++List.replicate 100 .any)) (fun q=>[.cells [.p (prog p)] 24,.cells [U e.op,I e.int,Sg e.name,Sg e.u2,Sg e.place.name,.p (strs e.place.path),.p (.sl 8 (e.args.map Ex.enc)),I e.pos] 43,.cells [U t.kind,Sg t.name,.p (.sl 3 (t.args.map Ty.enc))] 36,.tok 5 1 4,.tok 5 1 4]::S) (fun q=>4-q) 0 (Nat.zero_le _) ?_ ?_ ?_
  .simp
  .simp
  intro q hq
  by_cases ng:q=0
  .subst ng
   have wC:=wC 22 21
   have xF:=xF 21
   have xG:=xG 22 21
   have w1:=fun h=>zC0 (p:=p) (env:=env) (k:=21) (e:=e) (by decide) (zA0 (k:=22) (by decide) h)
   have w2:=zCF (p:=p) (env:=env) (u:=22) (f:=zAL 21 e) (by decide)
   rw[hx]at w1;simp;refine zAs [(7,8,12)] [(3,5)] (by kernel_rfl) (by kernel_rfl) (by kernel_rfl) (by simp) ?_
   simp;refine cq (wC _ _ _) ?_
   cases Za:zo (zAL 22 (zAL 21 e))with
   |false=>simp
   |true=>
   have w1:=w1 Za
   have w2:=w2 Za
   rw[Option.bind_some,if_neg ma]at w1;rw[w1,Option.bind_none]at w2;rw[w1]at xF;rw[w2]at xG;simp;refine cq (xF _ _ _) ?_;simp[payT];refine dB [(10,16),(14,16)] (by kernel_rfl) ?_
   simp;refine cq (oC _ _) ?_;rw[gg];simp;refine cq (xG _ _ _) ?_;simp[payT];exact⟨1,by decide,by decide,by decide⟩
  by_cases mi:q=1
  .subst mi
   have wC:=wC 22 26
   have xF:=xF 26
   have xG:=xG 22 26
   have w1:=fun h=>zC0 (p:=p) (env:=env) (k:=26) (e:=e) (by decide) (zA0 (k:=22) (by decide) h)
   have w2:=zCF (p:=p) (env:=env) (u:=22) (f:=zAL 26 e) (by decide)
   rw[hx]at w1;simp;refine zAs [(7,8,12)] [(3,5)] (by kernel_rfl) (by kernel_rfl) (by kernel_rfl) (by simp) ?_
   simp;refine cq (wC _ _ _) ?_
   cases Za:zo (zAL 22 (zAL 26 e))with
   |false=>simp
   |true=>
   have w1:=w1 Za
   have w2:=w2 Za
   rw[Option.bind_some,if_neg ma]at w1;rw[w1,Option.bind_none]at w2;rw[w1]at xF;rw[w2]at xG;simp;refine cq (xF _ _ _) ?_;simp[payT];refine dB [(10,16),(14,16)] (by kernel_rfl) ?_
   simp;refine cq (oC _ _) ?_;rw[gg];simp;refine cq (xG _ _ _) ?_;simp[payT];exact⟨2,by decide,by decide,by decide⟩
  by_cases Oa:q=2
  .subst Oa
   have wC:=wC 22 27
   have xF:=xF 27
   have xG:=xG 22 27
   have w1:=fun h=>zC0 (p:=p) (env:=env) (k:=27) (e:=e) (by decide) (zA0 (k:=22) (by decide) h)
   have w2:=zCF (p:=p) (env:=env) (u:=22) (f:=zAL 27 e) (by decide)
   rw[hx]at w1;simp;refine zAs [(7,8,12)] [(3,5)] (by kernel_rfl) (by kernel_rfl) (by kernel_rfl) (by simp) ?_
   simp;refine cq (wC _ _ _) ?_
   cases Za:zo (zAL 22 (zAL 27 e))with
   |false=>simp
   |true=>
   have w1:=w1 Za
   have w2:=w2 Za
   rw[Option.bind_some,if_neg ma]at w1;rw[w1,Option.bind_none]at w2;rw[w1]at xF;rw[w2]at xG;simp;refine cq (xF _ _ _) ?_;simp[payT];refine dB [(10,16),(14,16)] (by kernel_rfl) ?_
   simp;refine cq (oC _ _) ?_;rw[gg];simp;refine cq (xG _ _ _) ?_;simp[payT];exact⟨3,by decide,by decide,by decide⟩
  by_cases Cj:q=3
  .subst Cj
   have wC:=wC 30 29
   have xF:=xF 29
   have xG:=xG 30 29
   have w1:=fun h=>zC0 (p:=p) (env:=env) (k:=29) (e:=e) (by decide) (zA0 (k:=30) (by decide) h)
   have w2:=zCF (p:=p) (env:=env) (u:=30) (f:=zAL 29 e) (by decide)
   rw[hx]at w1;simp;refine zAs [(7,8,12)] [(3,5)] (by kernel_rfl) (by kernel_rfl) (by kernel_rfl) (by simp) ?_
   simp;refine cq (wC _ _ _) ?_
   cases Za:zo (zAL 30 (zAL 29 e))with
   |false=>simp
   |true=>
   have w1:=w1 Za
   have w2:=w2 Za
   rw[Option.bind_some,if_neg ma]at w1;rw[w1,Option.bind_none]at w2;rw[w1]at xF;rw[w2]at xG;simp;refine cq (xF _ _ _) ?_;simp[payT];refine dB [(10,16),(14,16)] (by kernel_rfl) ?_
   simp;refine cq (oC _ _) ?_;rw[gg];simp;refine cq (xG _ _ _) ?_;simp[payT];exact⟨4,by decide,by decide,by decide⟩
  obtain rfl:q=4:=by omega
  simp
end Go.Proofs.YtdflkegnmmkkoaaGreatDoor
