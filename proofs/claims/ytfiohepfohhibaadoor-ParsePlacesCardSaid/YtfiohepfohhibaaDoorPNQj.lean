/- A part of the proof. The statement is proved in the claim's last text. -/
import Derived.Test.YtfiohepfohhibaaDoorPNPt
import Derived.Test.YtfiohepfohhibaaDoorPMLt
import Derived.Test.YtfiohepfohhibaaDoorPNAr
import Derived.Test.YtfiohepfohhibaaDoorPNQi
import Derived.Test.YtfiohepfohhibaaDoorPNPp
set_option linter.unusedVariables false
set_option linter.unusedSimpArgs false
set_option maxRecDepth 100000
set_option maxHeartbeats 32000000
namespace Go.Proofs.YtfiohepfohhibaaDoor
open Go.RowKit
mutual
def St.deep : St → Nat
 | .mk op _ _ _ ty _ _ es b el ar _=>max (max (if op = 12 then ty.deep else 0) (mxL (es.map Ex.deep))) (max (St.deeps b) (max (St.deeps el) (Ar.deeps ar))) + 1
def St.deeps : List St → Nat
 | []=>0
 | s :: l=>max s.deep (St.deeps l)
def Ar.deeps : List (ArOf St) → Nat
 | []=>0
 | ⟨_,_,b⟩ :: l=>max (St.deeps b) (Ar.deeps l)
end
def St.kids (s : St) : List St:=s.body ++ (s.els ++ s.arms.flatMap fun a=>a.body)
theorem mxL_append (a b : List Nat) : mxL (a ++ b) = max (mxL a) (mxL b):=by
 induction a with
 | nil=>show mxL b = max 0 (mxL b); omega
 | cons x a ih =>
  have e : ∀ l,mxL (x :: l) = max x (mxL l):=fun l=>rfl
  rw [List.cons_append,e,e,ih]; omega
theorem mxL_le {l : List Nat} {n : Nat} (h : ∀ x ∈ l,x ≤ n) : mxL l ≤ n:=by
 induction l with
 | nil=>show 0 ≤ n; omega
 | cons a l ih =>
  have e : mxL (a :: l) = max a (mxL l):=rfl
  have:=h a (by simp)
  have:=ih fun x hx=>h x (List.mem_cons_of_mem _ hx)
  omega
theorem stDeeps (l : List St) : St.deeps l = mxL (l.map St.deep):=by
 induction l with
 | nil=>rfl
 | cons t l ih=>rw [St.deeps,ih]; rfl
theorem arDeeps (l : List Ar) : Ar.deeps l = mxL ((l.flatMap fun a=>a.body).map St.deep):=by
 induction l with
 | nil=>rfl
 | cons t l ih=>obtain ⟨v,nm,b⟩:=t; rw [Ar.deeps,ih,List.flatMap_cons,List.map_append,mxL_append,stDeeps]
theorem stDeep (s : St) : s.deep = max (max (if s.op = 12 then s.type.deep else 0) (mxL (s.exprs.map Ex.deep))) (mxL (s.kids.map St.deep)) + 1:=by
 cases s
 rw [St.deep,stDeeps,stDeeps,arDeeps]
 unfold St.kids
 rw [List.map_append,List.map_append,mxL_append,mxL_append]
 rfl
def It.deep (x : It) : Nat:=max (max (max x.result.deep x.ret.deep) (mxL (x.fields.map fun f=>f.type.deep))) (mxL (x.body.map St.deep)) + 1
def itsDeep (p : List It) : Nat:=mxL (p.map It.deep) + 1
end Go.Proofs.YtfiohepfohhibaaDoor
namespace Go.Proofs.YtfiohepfohhibaaDoor
open Go.RowKit
attribute [local simp] List.replicate List.range List.range.loop resA resOne retA AV.cuts AV.cut AObj.cut trim wkR wkT wkL wkN wkNR wkNL wkM wkMR wkML virtL virtO virt_get markL markO markR_get rowA awpI_nil awpI_cons List.forall_mem_cons List.contains_cons List.contains_nil List.find? nextD_eq awpD_nil awpD_cons LCp LCl refL
theorem tstmtsC (s : St) (a0 a1 : AObj) (S : ASt) : ADet Tryd.prog 62 [.agg (stU s)] ([a0,a1] :: S) (.fn (.func 79) [] [.ptr 0 2 0]) ([a0,a1,.cells (stU s) 65] :: S):=by
 refine ADet.flat mixed Tryd.call62 Tryd.func62 rfl ?_
 simp [Tryd.ntmps62]
def foldK {α : Type} (f : St → α → α) (l : List St) (a : α) : α:=l.foldl (fun a x=>f x a) a
theorem foldK_cons {α : Type} (f : St → α → α) (x : St) (l : List St) (a : α) : foldK f (x :: l) a = foldK f l (f x a):=rfl
theorem stmtsItC (s : St) (h1 : s.body.length ≤ 20000) (h2 : s.els.length ≤ 20000) (h3 : s.arms.length ≤ 20000) (h4 : ∀ a ∈ s.arms,a.body.length ≤ 20000) {α : Type} (f : St → α → α) (G : α → ASt) (i : Nat) (hq : ∀ a,get2 (G a) 0 i = some (.cells (stU s) 65)) (lp : Nat) (R : Option Code → List AObj)
  (hY : ∀ (L : List AObj) (x : St) (a : α),x ∈ s.kids → YDet Tryd.prog lp [.agg (stU x)] (L :: R none :: G a) (B true) (L :: R none :: G (f x a))) (a : α) :
  ADet Tryd.prog 79 [.fn (.yield lp) [] [],.ptr 1 i 0] (R none :: G a) .un (R none :: G (foldK f s.kids a)):=by
 refine ADet.introQ mixed Tryd.call79 Tryd.func79 rfl (by kernel_rfl) ?_
 simp [Tryd.ntmps79,hq]
 obtain ⟨z,hfin⟩ : ∃ z,foldK f s.kids a = z:=⟨_,rfl⟩
 rw [hfin]
 have hkb : ∀ x ∈ s.body,x ∈ s.kids:=fun x hx=>List.mem_append_left _ hx
 have hke : ∀ x ∈ s.els,x ∈ s.kids:=fun x hx=>List.mem_append_right _ (List.mem_append_left _ hx)
 have hka : ∀ c ∈ s.arms,∀ x ∈ c.body,x ∈ s.kids:=fun c hc x hx=>List.mem_append_right _ (List.mem_append_right _ (List.mem_flatMap.2 ⟨c,hc,hx⟩))
 have hkl : s.kids = s.body ++ (s.els ++ s.arms.flatMap fun a=>a.body):=rfl
 rw [hkl] at hfin
 obtain ⟨ar,har⟩ : ∃ ar,s.arms.flatMap (fun a=>a.body) = ar:=⟨_,rfl⟩
 rw [har] at hfin
 refine awq_loop (fun y : Nat × α=>y.1 = 0 ∧ foldK f (s.body ++ (s.els ++ ar)) y.2 = z ∨ y.1 = 1 ∧ foldK f (s.els ++ ar) y.2 = z ∨ y.1 = 2 ∧ foldK f ar y.2 = z) (fun y=>([.fn (.yield lp) [] [],.ptr 2 i 0] ++ (List.replicate 13 .any ++ ([.osl 1 [[.sl 15 (s.body.map St.enc)],[.sl 15 (s.els.map St.enc)]] 0 0,I 2,I y.1] ++ List.replicate 35 .any)))) (fun y=>[.tok 40 1 2] :: R none :: G y.2) (fun y=>2 - y.1) (0,a) (.inl ⟨rfl,hfin⟩) ?_ ?_ ?_
 ·simp
 ·simp
 rintro ⟨m,b⟩ hI
 simp only at hI
 rcases hI with ⟨rfl,hI⟩ | ⟨rfl,hI⟩ | ⟨rfl,hI⟩
 ·simp
  refine awq_loop (fun y : Nat × α=>y.1 ≤ s.body.length ∧ foldK f (s.body.drop y.1 ++ (s.els ++ ar)) y.2 = z) (fun y=>([.fn (.yield lp) [] [],.ptr 2 i 0] ++ (List.replicate 13 .any ++ ([.osl 1 [[.sl 15 (s.body.map St.enc)],[.sl 15 (s.els.map St.enc)]] 0 0,I 2,I 0,.any,.any,.any,.p (.sl 15 (s.body.map St.enc)),I s.body.length,I y.1] ++ List.replicate 29 .any)))) (fun y=>[.tok 40 1 2] :: R none :: G y.2) (fun y=>s.body.length - y.1) (0,b) ⟨Nat.zero_le _,hI⟩ ?_ ?_ ?_
  ·simp
  ·simp
  rintro ⟨q,c⟩ ⟨hq,hF⟩
  simp only at hq hF
  by_cases hlt : q < s.body.length
  ·have hlt' : (q : Int) < (s.body.length : Int):=by omega
   have hw:=wrap_succ hlt (by unfold maxLen; omega)
   have hd : s.body.drop q = s.body[q] :: s.body.drop (q + 1):=List.drop_eq_getElem_cons hlt
   rw [hd] at hF
   have y:=fun L=>hY L s.body[q] c (hkb _ (List.getElem_mem hlt))
   generalize he : s.body[q] = x at *
   simp [hlt,hlt',he,stEnc]
   refine ⟨_,_,y _,?_⟩
   simp
   exact ⟨q + 1,f x c,⟨hlt,hF⟩,by omega,by simp [hw]⟩
  ·have hlt' : ¬ (q : Int) < (s.body.length : Int):=by omega
   rw [List.drop_of_length_le (by omega)] at hF
   simp [hlt']
   exact ⟨1,c,.inr (.inl ⟨rfl,hF⟩),by omega,by simp; decide⟩
 ·simp
  refine awq_loop (fun y : Nat × α=>y.1 ≤ s.els.length ∧ foldK f (s.els.drop y.1 ++ ar) y.2 = z) (fun y=>([.fn (.yield lp) [] [],.ptr 2 i 0] ++ (List.replicate 13 .any ++ ([.osl 1 [[.sl 15 (s.body.map St.enc)],[.sl 15 (s.els.map St.enc)]] 0 0,I 2,I 1,.any,.any,.any,.p (.sl 15 (s.els.map St.enc)),I s.els.length,I y.1] ++ List.replicate 29 .any)))) (fun y=>[.tok 40 1 2] :: R none :: G y.2) (fun y=>s.els.length - y.1) (0,b) ⟨Nat.zero_le _,hI⟩ ?_ ?_ ?_
  ·simp
  ·simp
  rintro ⟨q,c⟩ ⟨hq,hF⟩
  simp only at hq hF
  by_cases hlt : q < s.els.length
  ·have hlt' : (q : Int) < (s.els.length : Int):=by omega
   have hw:=wrap_succ hlt (by unfold maxLen; omega)
   have hd : s.els.drop q = s.els[q] :: s.els.drop (q + 1):=List.drop_eq_getElem_cons hlt
   rw [hd] at hF
   have y:=fun L=>hY L s.els[q] c (hke _ (List.getElem_mem hlt))
   generalize he : s.els[q] = x at *
   simp [hlt,hlt',he,stEnc]
   refine ⟨_,_,y _,?_⟩
   simp
   exact ⟨q + 1,f x c,⟨hlt,hF⟩,by omega,by simp [hw]⟩
  ·have hlt' : ¬ (q : Int) < (s.els.length : Int):=by omega
   rw [List.drop_of_length_le (by omega)] at hF
   simp [hlt']
   exact ⟨2,c,.inr (.inr ⟨rfl,hF⟩),by omega,by simp; decide⟩
 ·simp [hq]
  refine awq_loop (fun y : Nat × α=>y.1 ≤ s.arms.length ∧ foldK f ((s.arms.drop y.1).flatMap fun a=>a.body) y.2 = z) (fun y=>([.fn (.yield lp) [] [],.ptr 2 i 0] ++ (List.replicate 32 .any ++ ([.p (.sl 3 (s.arms.map Ar.enc)),I s.arms.length,I y.1] ++ List.replicate 16 .any)))) (fun y=>[.tok 40 1 2] :: R none :: G y.2) (fun y=>s.arms.length - y.1) (0,b) ⟨Nat.zero_le _,by rw [List.drop_zero,har]; exact hI⟩ ?_ ?_ ?_
  ·simp
  ·simp
  rintro ⟨q,c⟩ ⟨hq',hF⟩
  simp only at hq' hF
  by_cases hlt : q < s.arms.length
  ·have hlt' : (q : Int) < (s.arms.length : Int):=by omega
   have hw:=wrap_succ hlt (by unfold maxLen; omega)
   have hd : s.arms.drop q = s.arms[q] :: s.arms.drop (q + 1):=List.drop_eq_getElem_cons hlt
   rw [hd,List.flatMap_cons] at hF
   have hm:=hka s.arms[q] (List.getElem_mem hlt)
   have hbl:=h4 s.arms[q] (List.getElem_mem hlt)
   generalize he : s.arms[q] = m at *
   simp [hlt,hlt',he,Ar.enc]
   refine awq_loop (fun y : Nat × α=>y.1 ≤ m.body.length ∧ foldK f (m.body.drop y.1 ++ (s.arms.drop (q + 1)).flatMap fun a=>a.body) y.2 = z) (fun y=>([.fn (.yield lp) [] [],.ptr 2 i 0] ++ (List.replicate 32 .any ++ [.p (.sl 3 (s.arms.map Ar.enc)),I s.arms.length,I q,.any,.any,.any,.any,.p (.sl 15 (m.body.map St.enc)),I m.body.length,I y.1,.any,.any,.any,.any,.any,.any,.any,.any,.any]))) (fun y=>[.tok 40 1 2,.cells [Sg m.variant,Sg m.name,.p (.sl 15 (m.body.map St.enc))] 67] :: R none :: G y.2) (fun y=>m.body.length - y.1) (0,c) ⟨Nat.zero_le _,hF⟩ ?_ ?_ ?_
   ·simp
   ·simp
   rintro ⟨j,b'⟩ ⟨hj,hG⟩
   simp only at hj hG
   by_cases hjt : j < m.body.length
   ·have hjt' : (j : Int) < (m.body.length : Int):=by omega
    have hwj:=wrap_succ hjt (by unfold maxLen; omega)
    have hdj : m.body.drop j = m.body[j] :: m.body.drop (j + 1):=List.drop_eq_getElem_cons hjt
    rw [hdj] at hG
    have y:=fun L=>hY L m.body[j] b' (hm _ (List.getElem_mem hjt))
    generalize hx : m.body[j] = x at *
    simp [hjt,hjt',hx,stEnc]
    refine ⟨_,_,y _,?_⟩
    simp
    exact ⟨j + 1,f x b',⟨hjt,hG⟩,by omega,by simp [hwj]⟩
   ·have hjt' : ¬ (j : Int) < (m.body.length : Int):=by omega
    rw [List.drop_of_length_le (by omega)] at hG
    simp [hjt']
    exact ⟨q + 1,b',⟨hlt,hG⟩,by omega,by simp [hw]⟩
  ·have hlt' : ¬ (q : Int) < (s.arms.length : Int):=by omega
   rw [List.drop_of_length_le (by omega)] at hF
   obtain rfl : c = z:=hF
   simp [hlt']
def St.kidsOk (s : St) : Prop:=s.body.length ≤ 20000 ∧ s.els.length ≤ 20000 ∧ s.arms.length ≤ 20000 ∧ ∀ a ∈ s.arms,a.body.length ≤ 20000
theorem kids_ok {s : St} (h : StSm s) : s.kidsOk ∧ s.exprs.length ≤ 20000 ∧ ∀ x ∈ s.kids,StSm x:=by
 obtain ⟨_,_,_,_,_,_,he,hb,hl,ha,k1,k2,k3,k4⟩:=h
 refine ⟨⟨hb,hl,ha,fun a h=>(k3 a h).2.2⟩,he.1,fun x hx=>?_⟩
 unfold St.kids at hx
 simp only [List.mem_append,List.mem_flatMap] at hx
 rcases hx with h | h | ⟨a,h,hx⟩
 ·exact k1 x h
 ·exact k2 x h
 ·exact k4 a h x hx
theorem foldK_max (l : List St) (n : Nat) : foldK (fun x n=>max n x.deep) l n = max n (mxL (l.map St.deep)):=by
 induction l generalizing n with
 | nil=>show n = max n 0; omega
 | cons x l ih =>
  rw [foldK_cons,ih]
  have e : mxL ((x :: l).map St.deep) = max x.deep (mxL (l.map St.deep)):=rfl
  rw [e]; omega
theorem deepStmtC : ∀ (s : St),StSm s → s.deep ≤ 1000000 → ∀ (S : ASt),ADet Tryd.prog 50 [.agg (stU s)] S (I s.deep) S:=by
 refine St.ind fun s i1 i2 i3 hsm hd S=>?_
 obtain ⟨⟨k1,k2,k3,k4⟩,k5,k6⟩:=kids_ok hsm
 have ih : ∀ x ∈ s.kids,x.deep ≤ 1000000 → ∀ (S : ASt),ADet Tryd.prog 50 [.agg (stU x)] S (I x.deep) S:=fun x hx=>by
  have h:=k6 x hx
  unfold St.kids at hx
  simp only [List.mem_append,List.mem_flatMap] at hx
  rcases hx with hx | hx | ⟨a,ha,hx⟩
  ·exact i1 x hx h
  ·exact i2 x hx h
  ·exact i3 a ha x hx h
 clear i1 i2 i3
 have hdp:=stDeep s
 have hkd : ∀ x ∈ s.kids,x.deep ≤ mxL (s.kids.map St.deep):=fun x hx=>mxL_mem (List.mem_map_of_mem hx)
 refine ADet.introQ mixed Tryd.call50 Tryd.func50 rfl (by kernel_rfl) ?_
 obtain ⟨n0,hn0⟩ : ∃ n0,(if s.op = 12 then s.type.deep else 0) = n0:=⟨_,rfl⟩
 have hn0' : n0 ≤ 1000000:=by omega
 have hn0'':=hn0
 by_cases h12 : s.op = 12
 ·rw [if_pos h12] at hn0
  have tC:=fun S=>deepTypeC s.type (by omega) S
  simp [Tryd.ntmps50,h12]
  refine ⟨_,_,tC _,?_⟩
  simp [hn0]
  refine awq_loop (fun y : Nat × Nat=>y.1 ≤ s.exprs.length ∧ y.2 = max n0 (mxL ((s.exprs.map Ex.deep).take y.1))) (fun y=>([.any,.ptr 0 0 0,.any,.ptr 0 1 0,.any,.any,.any,.any,.any,.any,.any,.any,.any,.any,.p (.sl 8 (s.exprs.map Ex.enc)),I s.exprs.length,I y.1] ++ List.replicate 17 .any)) (fun y=>[.cells (stU s) 65,.cells [I y.2] 3] :: S) (fun y=>s.exprs.length - y.1) (0,n0) ⟨Nat.zero_le _,by simp [mxL]⟩ ?_ ?_ ?_
  ·simp
  ·simp [h12]
  rintro ⟨q,a⟩ ⟨hq,ha⟩
  simp only at hq ha
  by_cases hlt : q < s.exprs.length
  ·have hlt' : (q : Int) < (s.exprs.length : Int):=by omega
   have hw:=wrap_succ hlt (by unfold maxLen; omega)
   have hT:=mxL_take Ex.deep s.exprs hlt
   have hmem : s.exprs[q].deep ≤ mxL (s.exprs.map Ex.deep):=mxL_mem (List.mem_map_of_mem (List.getElem_mem hlt))
   generalize he : s.exprs[q] = e at *
   have eC:=fun S=>deepExprC e (by omega) S
   obtain ⟨a',ha'⟩ : ∃ a' : Nat,a' = max a e.deep:=⟨_,rfl⟩
   have hm1 : (if (a : Int) < (e.deep : Int) then (e.deep : Int) else (a : Int)) = (a' : Int):=by split <;> omega
   simp [hlt,hlt',he,exEnc]
   refine awq_of (c:=.skip) (fun _ _ _=>trivial) (awp_draw [(0,2)] (by kernel_rfl) (by kernel_rfl) ?_)
   simp
   refine ⟨_,_,eC _,?_⟩
   simp [hm1]
   exact ⟨q + 1,a',⟨hlt,by rw [ha',ha,hT]; omega⟩,by omega,hw,by split <;> omega⟩
  ·have hlt' : ¬ (q : Int) < (s.exprs.length : Int):=by omega
   rw [List.take_of_length_le (by simp; omega)] at ha
   have aC:=fun a0 a1 S=>tstmtsC s a0 a1 S
   simp [hlt']
   refine ⟨_,_,aC _ _ _,?_⟩
   simp
   rw [awq]
   refine ⟨79,[.ptr 0 2 0],rfl,rfl,rfl,none,[.cells (stU s) 65,.cells [I (foldK (fun x n=>max n x.deep) s.kids a : Nat)] 3,.cells (stU s) 65] :: S,fun lp R hY=>ADet.less (.any .un) (stmtsItC s k1 k2 k3 k4 (fun x n=>max n x.deep) (fun n : Nat=>[.cells (stU s) 65,.cells [I n] 3,.cells (stU s) 65] :: S) 2 (fun _=>rfl) lp R (fun L x n hx=>?_) a),?_⟩
   ·have xC:=fun S=>ih x hx (by have:=hkd x hx; omega) S
    have hm1 : (if n < x.deep then (x.deep : Int) else (n : Int)) = ((max n x.deep : Nat) : Int):=by split <;> omega
    generalize max n x.deep = n' at *
    refine hY L [.agg (stU x)] _ ([.cells (stU s) 65,.cells [I n] 3,.cells (stU s) 65] :: S) none ([.cells (stU s) 65,.cells [I n'] 3,.cells (stU s) 65] :: S) rfl ⟨rfl,by simp,?_⟩
    simp [setPs,ROk]
    refine awp_draw [(0,2)] (by kernel_rfl) (by kernel_rfl) ?_
    simp [ROk]
    refine ⟨_,_,xC _,?_⟩
    simp [ROk]
    exact hm1
   ·rw [foldK_max]
    have hw:=wrap_one (a:=max a (mxL (s.kids.map St.deep))) (by omega)
    have hdd : max a (mxL (s.kids.map St.deep)) + 1 = s.deep:=by rw [hdp,hn0'']; omega
    rw [hdd] at hw
    generalize max a (mxL (s.kids.map St.deep)) = m at *
    simp [JQ,hw]
 ·rw [if_neg h12] at hn0
  have h12' : (s.op == 12) = false:=by simpa using h12
  simp [Tryd.ntmps50,h12']
  refine awq_loop (fun y : Nat × Nat=>y.1 ≤ s.exprs.length ∧ y.2 = max n0 (mxL ((s.exprs.map Ex.deep).take y.1))) (fun y=>([.any,.ptr 0 0 0,.any,.ptr 0 1 0,.any,.any,.any,.any,.any,.any,.any,.any,.any,.any,.p (.sl 8 (s.exprs.map Ex.enc)),I s.exprs.length,I y.1] ++ List.replicate 17 .any)) (fun y=>[.cells (stU s) 65,.cells [I y.2] 3] :: S) (fun y=>s.exprs.length - y.1) (0,n0) ⟨Nat.zero_le _,by simp [mxL]⟩ ?_ ?_ ?_
  ·simp
  ·simp [← hn0]
  rintro ⟨q,a⟩ ⟨hq,ha⟩
  simp only at hq ha
  by_cases hlt : q < s.exprs.length
  ·have hlt' : (q : Int) < (s.exprs.length : Int):=by omega
   have hw:=wrap_succ hlt (by unfold maxLen; omega)
   have hT:=mxL_take Ex.deep s.exprs hlt
   have hmem : s.exprs[q].deep ≤ mxL (s.exprs.map Ex.deep):=mxL_mem (List.mem_map_of_mem (List.getElem_mem hlt))
   generalize he : s.exprs[q] = e at *
   have eC:=fun S=>deepExprC e (by omega) S
   obtain ⟨a',ha'⟩ : ∃ a' : Nat,a' = max a e.deep:=⟨_,rfl⟩
   have hm1 : (if (a : Int) < (e.deep : Int) then (e.deep : Int) else (a : Int)) = (a' : Int):=by split <;> omega
   simp [hlt,hlt',he,exEnc]
   refine awq_of (c:=.skip) (fun _ _ _=>trivial) (awp_draw [(0,2)] (by kernel_rfl) (by kernel_rfl) ?_)
   simp
   refine ⟨_,_,eC _,?_⟩
   simp [hm1]
   exact ⟨q + 1,a',⟨hlt,by rw [ha',ha,hT]; omega⟩,by omega,hw,by split <;> omega⟩
  ·have hlt' : ¬ (q : Int) < (s.exprs.length : Int):=by omega
   rw [List.take_of_length_le (by simp; omega)] at ha
   have aC:=fun a0 a1 S=>tstmtsC s a0 a1 S
   simp [hlt']
   refine ⟨_,_,aC _ _ _,?_⟩
   simp
   rw [awq]
   refine ⟨79,[.ptr 0 2 0],rfl,rfl,rfl,none,[.cells (stU s) 65,.cells [I (foldK (fun x n=>max n x.deep) s.kids a : Nat)] 3,.cells (stU s) 65] :: S,fun lp R hY=>ADet.less (.any .un) (stmtsItC s k1 k2 k3 k4 (fun x n=>max n x.deep) (fun n : Nat=>[.cells (stU s) 65,.cells [I n] 3,.cells (stU s) 65] :: S) 2 (fun _=>rfl) lp R (fun L x n hx=>?_) a),?_⟩
   ·have xC:=fun S=>ih x hx (by have:=hkd x hx; omega) S
    have hm1 : (if n < x.deep then (x.deep : Int) else (n : Int)) = ((max n x.deep : Nat) : Int):=by split <;> omega
    generalize max n x.deep = n' at *
    refine hY L [.agg (stU x)] _ ([.cells (stU s) 65,.cells [I n] 3,.cells (stU s) 65] :: S) none ([.cells (stU s) 65,.cells [I n'] 3,.cells (stU s) 65] :: S) rfl ⟨rfl,by simp,?_⟩
    simp [setPs,ROk]
    refine awp_draw [(0,2)] (by kernel_rfl) (by kernel_rfl) ?_
    simp [ROk]
    refine ⟨_,_,xC _,?_⟩
    simp [ROk]
    exact hm1
   ·rw [foldK_max]
    have hw:=wrap_one (a:=max a (mxL (s.kids.map St.deep))) (by omega)
    have hdd : max a (mxL (s.kids.map St.deep)) + 1 = s.deep:=by rw [hdp,hn0'']; omega
    rw [hdd] at hw
    generalize max a (mxL (s.kids.map St.deep)) = m at *
    simp [JQ,hw]
theorem deepItemAC (x : It) (hsm : ItSm x) (hd : x.deep ≤ 1000000) (S : ASt) : ADet Tryd.prog 26 [itV x] S (I x.deep) S:=by
 have hlen:=hsm.2.1.1
 have hblen:=hsm.2.2.2.1.1
 have hbsm:=hsm.2.2.2.1.2
 obtain ⟨D,hD⟩ : ∃ D,x.deep = D:=⟨_,rfl⟩
 rw [hD] at hd ⊢
 unfold It.deep at hD
 obtain ⟨m0,hm0⟩ : ∃ m0,m0 = max x.result.deep x.ret.deep:=⟨_,rfl⟩
 rw [← hm0] at hD
 have hT:=fun S=>deepTypeC x.result (by omega) S
 have hX:=fun S=>deepExprC x.ret (by omega) S
 have hm1 : (if x.result.deep < x.ret.deep then (x.ret.deep : Int) else (x.result.deep : Int)) = (m0 : Int):=by split <;> omega
 refine ADet.intro mixed Tryd.call26 Tryd.func26 rfl ?_
 simp [Tryd.ntmps26]
 refine awp_draw [(4,2)] (by kernel_rfl) (by kernel_rfl) ?_
 simp
 refine ⟨_,_,hT _,?_⟩
 simp
 refine ⟨_,_,hX _,?_⟩
 simp [hm1]
 refine awp_loop (fun q : Nat=>q ≤ x.fields.length) (fun q=>([.any,.ptr 0 0 0,.any,I (max m0 (mxL ((x.fields.map fun f=>f.type.deep).take q)) : Nat)] ++ (List.replicate 12 .any ++ ([.p (.sl 4 (x.fields.map Fi.enc)),I x.fields.length,I q] ++ List.replicate 23 .any)))) (fun q=>[.cells (itU x) 48] :: S) (fun q=>x.fields.length - q) 0 (Nat.zero_le _) ?_ ?_ ?_
 ·simp [mxL]
 ·simp
 intro q hq
 by_cases hlt : q < x.fields.length
 ·have hT:=mxL_take (fun f : Fi=>f.type.deep) x.fields hlt
  have hmem : x.fields[q].type.deep ≤ mxL (x.fields.map fun f=>f.type.deep):=mxL_mem (List.mem_map.2 ⟨_,List.getElem_mem hlt,rfl⟩)
  have hlt' : (q : Int) < (x.fields.length : Int):=by omega
  generalize he : x.fields[q] = f at *
  have hx:=fun S=>deepTypeC f.type (by omega) S
  simp [hlt,hlt',he,Fi.enc]
  refine ⟨_,_,hx _,?_⟩
  simp
  exact ⟨q + 1,hlt,by omega,by rw [hT]; split <;> omega,wrap_succ hlt (by unfold maxLen; omega)⟩
 ·have ht : (x.fields.map fun f=>f.type.deep).take q = x.fields.map fun f=>f.type.deep:=List.take_of_length_le (by simp; omega)
  have hlt' : ¬ (q : Int) < (x.fields.length : Int):=by omega
  obtain ⟨m1,hm1'⟩ : ∃ m1,m1 = max m0 (mxL (x.fields.map fun f=>f.type.deep)):=⟨_,rfl⟩
  rw [← hm1'] at hD
  have hm1'' : max m0 (mxL ((x.fields.map fun f=>f.type.deep).take q)) = m1:=by rw [ht,hm1']
  simp only [hm1'']
  simp [hlt']
  refine awp_loop (fun q : Nat=>q ≤ x.body.length) (fun q=>([.any,.any,.any,I (max m1 (mxL ((x.body.map St.deep).take q)) : Nat)] ++ (List.replicate 25 .any ++ [.p (.sl 15 (x.body.map St.enc)),I x.body.length,I q,.any,.any,.any,.any,.any,.any,.any,.any,.any,.any]))) (fun q=>[.cells (itU x) 48] :: S) (fun q=>x.body.length - q) 0 (Nat.zero_le _) ?_ ?_ ?_
  ·simp [mxL]
  ·simp
  intro j hj
  by_cases hjt : j < x.body.length
  ·have hT:=mxL_take St.deep x.body hjt
   have hmem : x.body[j].deep ≤ mxL (x.body.map St.deep):=mxL_mem (List.mem_map_of_mem (List.getElem_mem hjt))
   have hjt' : (j : Int) < (x.body.length : Int):=by omega
   have hss:=hbsm _ (List.getElem_mem hjt)
   generalize he : x.body[j] = s at *
   have hx:=fun S=>deepStmtC s hss (by omega) S
   simp [hjt,hjt',he,stEnc]
   refine ⟨_,_,hx _,?_⟩
   simp
   exact ⟨j + 1,hjt,by omega,by rw [hT]; split <;> omega,wrap_succ hjt (by unfold maxLen; omega)⟩
  ·have ht : (x.body.map St.deep).take j = x.body.map St.deep:=List.take_of_length_le (by simp; omega)
   have hjt' : ¬ (j : Int) < (x.body.length : Int):=by omega
   have hw:=wrap_one (a:=max m1 (mxL (x.body.map St.deep))) (by omega)
   rw [hD] at hw
   simp [hjt',ht,hw]
theorem depthAC (p : List It) (hp : PrSm p) (hd : itsDeep p ≤ 1000000) (S : ASt) : ADet Tryd.prog 13 [.agg [.p (prog p)]] S (I (itsDeep p)) S:=by
 have hlen:=hp.1
 unfold itsDeep at *
 refine ADet.intro mixed Tryd.call13 Tryd.func13 rfl ?_
 simp [Tryd.ntmps13,prog]
 refine awp_loop (fun q : Nat=>q ≤ p.length) (fun q=>[.any,.ptr 0 0 0,.any,I (mxL ((p.map It.deep).take q)),.any,.any,.any,.p (.sl 16 (p.map It.enc)),I p.length,I q,.any,.any,.any,.any,.any,.any,.any,.any,.any,.any]) (fun q=>[.cells [.p (.sl 16 (p.map It.enc))] 25] :: S) (fun q=>p.length - q) 0 (Nat.zero_le _) ?_ ?_ ?_
 ·simp [mxL]
 ·simp
 intro q hq
 by_cases hlt : q < p.length
 ·have hT:=mxL_take It.deep p hlt
  have hmem : p[q].deep ≤ mxL (p.map It.deep):=mxL_mem (List.mem_map_of_mem (List.getElem_mem hlt))
  have hx:=fun S=>deepItemAC p[q] (hp.2 _ (List.getElem_mem hlt)) (by omega) S
  have hlt' : (q : Int) < (p.length : Int):=by omega
  generalize he : p[q] = x at *
  simp [hlt,hlt',he,It.enc]
  refine ⟨_,_,hx _,?_⟩
  simp
  exact ⟨q + 1,hlt,by omega,by rw [hT]; split <;> omega,wrap_succ hlt (by unfold maxLen; omega)⟩
 ·have ht : (p.map It.deep).take q = p.map It.deep:=List.take_of_length_le (by simp; omega)
  have hlt' : ¬ (q : Int) < (p.length : Int):=by omega
  have hw:=wrap_one (a:=mxL (p.map It.deep)) (by omega)
  simp [hlt',ht,hw]
theorem itemFnQ {n : Nat} (hn : n ≤ 100000) {l : List Tok} (hl15 : l.length ≤ 1500) {s : RS} {x : It} {s' : RS} (hs : s.at_ ≤ l.length) (h0 : isP l s (⟨#[115,116,114,117,99,116]⟩ : ByteArray) 0 = false) (h1 : isP l s (⟨#[101,110,117,109]⟩ : ByteArray) 0 = false) (h : itemQ l n s = some (x,s')) : RdC 12 [] l s s' (itA x) ∧ s'.at_ ≤ l.length:=by
 unfold itemQ at h
 rw [h0,if_neg (by simp),h1,if_neg (by simp)] at h
 split at h
 ·cases h
 rename_i fs s2 hk
 split at h
 ·cases h
 rename_i t s3 ht
 split at h
 ·cases h
 rename_i b e s4 he
 cases h
 have hm0 : mayP l s (⟨#[115,116,114,117,99,116]⟩ : ByteArray) = s:=by unfold mayP; rw [h0]; rfl
 have hm00 : mayP l s (⟨#[101,110,117,109]⟩ : ByteArray) = s:=by unfold mayP; rw [h1]; rfl
 have hm1:=mustP_le [(⟨#[102,110]⟩ : ByteArray)] _ hs
 have hm2:=takeP_le (s:=mustP l s [(⟨#[102,110]⟩ : ByteArray)]) 2 hm1
 have hm3:=mustP_le [(⟨#[40]⟩ : ByteArray)] _ hm2
 have lC:=listFieldC (K:=21) (fun s x s' a b=>fieldP_le a b) (fun s x s' a b=>fieldRW a b) hn hm3 hk
 have hm4:=listP_le (fun s x s' a b=>fieldP_le a b) hm3 hk
 have hm5:=mustP_le [(⟨#[45,62]⟩ : ByteArray)] _ hm4
 have tC:=kindRC n l _ t s3 hm5 ht
 have hm6:=kindP_le n l _ t s3 hm5 ht
 have hm7:=mustP_le [(⟨#[123]⟩ : ByteArray)] _ hm6
 obtain ⟨bC,hm8⟩:=bodyQW hl15 n hn hm7 he
 refine ⟨?_,mustP_le _ _ hm8⟩
 refine RdC.less (r:=.agg [U 3,Sg (takeT l (mustP l s [(⟨#[102,110]⟩ : ByteArray)]) 2),.p (.sl 4 (fs.map Fi.enc)),U t.kind,Sg t.name,.p (.sl 3 (t.args.map Ty.enc)),.p (.sl 15 (b.map St.enc)),U e.op,I e.int,Sg e.name,Sg e.second,Sg e.place.name,.p (strs e.place.path),.p (.sl 8 (e.args.map Ex.enc)),I e.pos,I (placeP l s)]) (by repeat' constructor) (RdC.intro fun S d i hR=>?_)
 refine ADet.intro mixed Tryd.call12 Tryd.func12 rfl ?_
 simp [Tryd.ntmps12]
 refine ⟨_,_,(placeRW s).at hR hs _,?_⟩
 simp
 refine ⟨_,_,(mayW s (⟨#[115,116,114,117,99,116]⟩ : ByteArray)).at hR hs _,?_⟩
 rw [h0,hm0]
 simp
 refine ⟨_,_,(mayW s (⟨#[101,110,117,109]⟩ : ByteArray)).at hR hs _,?_⟩
 rw [h1,hm00]
 simp
 refine ⟨_,_,ADet.sub (.cons (.refl _) (.cons (.osl (.refl _)) (.refl _))) ((mustW _ [(⟨#[102,110]⟩ : ByteArray)] (by simp) hs).at hR hs _),?_⟩
 simp
 refine ⟨_,_,(nameRW _).at hR hm1 _,?_⟩
 simp
 refine ⟨_,_,ADet.sub (.cons (.refl _) (.cons (.osl (.refl _)) (.refl _))) ((mustW _ [(⟨#[40]⟩ : ByteArray)] (by simp) hm2).at hR hm2 _),?_⟩
 simp
 refine ⟨_,_,lC.at hR hm3 _,?_⟩
 simp
 refine ⟨_,_,ADet.sub (.cons (.refl _) (.cons (.osl (.refl _)) (.refl _))) ((mustW _ [(⟨#[45,62]⟩ : ByteArray)] (by simp) hm4).at hR hm4 _),?_⟩
 simp
 refine ⟨_,_,tC.at hR hm5 _,?_⟩
 simp
 refine ⟨_,_,ADet.sub (.cons (.refl _) (.cons (.osl (.refl _)) (.refl _))) ((mustW _ [(⟨#[123]⟩ : ByteArray)] (by simp) hm6).at hR hm6 _),?_⟩
 simp
 refine ⟨_,_,bC.at hR hm7 _,?_⟩
 simp
 refine ⟨_,_,ADet.sub (.cons (.refl _) (.cons (.osl (.refl _)) (.refl _))) ((mustW _ [(⟨#[125]⟩ : ByteArray)] (by simp) hm8).at hR hm8 _),?_⟩
 simp
theorem itemQW {n : Nat} (hn : n ≤ 100000) {l : List Tok} (hl15 : l.length ≤ 1500) {s : RS} {x : It} {s' : RS} (hs : s.at_ ≤ l.length) (h : itemQ l n s = some (x,s')) : RdC 12 [] l s s' (itA x) ∧ s'.at_ ≤ l.length:=by
 cases h0 : isP l s (⟨#[115,116,114,117,99,116]⟩ : ByteArray) 0 with
 | true =>
  unfold itemQ at h
  rw [h0,if_pos rfl] at h
  obtain ⟨a,b,_⟩:=itemRW hn hs h
  exact ⟨a,b⟩
 | false =>
  cases h1 : isP l s (⟨#[101,110,117,109]⟩ : ByteArray) 0 with
  | true =>
   unfold itemQ at h
   rw [h0,if_neg (by simp),h1,if_pos rfl] at h
   obtain ⟨a,b,_⟩:=itemRW hn hs h
   exact ⟨a,b⟩
  | false=>exact itemFnQ hn hl15 hs h0 h1 h
theorem programQC (n : Nat) (hn : n ≤ 100000) (s : ByteArray) (p : List It) (h : parseQ n s = some p) (hp : PrSm p) (hd : itsDeep p ≤ 40) (S : ASt) : ADet Tryd.prog 5 [Sg s] S (.tup [.agg [.p (prog p)],nilS]) S:=by
 unfold parseQ at h
 split at h
 ·cases h
 rename_i hsz
 split at h
 ·cases h
 rename_i m hbt
 split at h
 ·cases h
 rename_i l hlx
 split at h
 ·cases h
 rename_i hll
 split at h
 ·cases h
 rename_i p' s1 hit
 split at h
 ·cases h
 rename_i hend
 cases h
 have hbad : s1.bad = false:=by cases hb : s1.bad with | false=>rfl | true=>simp [hb] at hend
 have hful : s1.full = false:=by cases hb : s1.full with | false=>rfl | true=>simp [hb] at hend
 have h30 : p.length ≤ 30:=by have : ¬ 30 < p.length:=fun h=>hend (.inr (.inr h)); omega
 have h30' : ¬ (30 : Int) < (p.length : Int):=by omega
 have aC:=fun S=>allC s (by omega) n n m l hbt hlx (by omega) S
 have dC:=fun S=>depthAC p hp (by omega) S
 have hd' : ¬ (40 : Int) < (itsDeep p : Int):=by omega
 have hl15 : l.length ≤ 1500:=by omega
 refine ADet.intro mixed Tryd.call5 Tryd.func5 rfl ?_
 simp [Tryd.ntmps5]
 refine ⟨_,_,aC _,?_⟩
 simp
 refine awp_loopG 48 16 (by decide) [.cells [.any] 25,rdO l ⟨0,false,false⟩,.cells [.osl 16 [] 0 3] 25] (fun a : Nat × List It × RS=>itemsQ l n a.1 a.2.1 a.2.2 = some (p,s1) ∧ a.2.1.length + a.1 ≤ n ∧ a.2.2.at_ ≤ l.length) (fun a=>([Sg s,.any,.ptr 0 0 0,.any,.p (.sl 3 (l.map Tok.enc)),.any,.any,.ptr 0 1 0,.ptr 0 2 0] ++ List.replicate 89 .any)) (fun a=>[.cells [.any] 25,rdO l a.2.2,.cells [.osl 16 (a.2.1.map It.enc) 0 3] 25,.tok 48 16 a.2.1.length] :: S) (fun a=>a.1) (n,[],⟨0,false,false⟩) ⟨hit,by simp,Nat.zero_le _⟩ ?_ ?_ ?_ ?_
 ·simp
 ·simp
 ·rfl
 rintro ⟨k,acc,s4⟩ ⟨hl,hkn,hs4⟩
 simp only at hl hkn hs4
 cases k with
 | zero=>simp [itemsQ] at hl
 | succ k =>
 unfold itemsQ at hl
 split at hl
 ·rename_i hgo
  split at hl
  ·cases hl
  rename_i x s5 hx
  obtain ⟨xC,hs5⟩:=itemQW hn (by omega) hs4 hx
  have hlt' : (s4.at_ : Int) < (l.length : Int):=by omega
  have hap : acc.length + 1 ≤ 4294967296:=by omega
  simp [hlt',hgo.2]
  refine awp_draw [(1,3),(1,4)] (by kernel_rfl) (by kernel_rfl) ?_
  simp
  refine ⟨_,_,xC _ 0 1 ⟨rfl,hs4,hl15⟩,?_⟩
  simp [hap]
  exact ⟨k,acc ++ [x],s5,⟨hl,by simp; omega,hs5⟩,by omega,⟨by simp,by simp; rfl⟩⟩
 ·rename_i hgo
  cases hl
  have hgo' : ¬ ((s1.at_ : Int) < (l.length : Int)):=by
   intro h
   exact hgo ⟨by omega,hbad⟩
  simp [hgo',hbad,hful,h30']
  refine ⟨_,_,ADet.sub (.cons (.agg (.cons (.osl (.refl _)) (.refl _))) (.refl _)) (dC _),?_⟩
  simp [hd',prog]
def noneP : AV:=.agg [.p (.sl 16 [])]
def oneP (e a : Int) : AV:=.p (.sl 2 [[pI e,pI a]])
theorem oneRC (e a : Int) (S : ASt) : ADet Tryd.prog 11 [I e,I a] S (.p (.sl 2 [[pI e,pI a]])) S:=by
 refine ADet.intro mixed Tryd.call11 Tryd.func11 rfl ?_
 simp [Tryd.ntmps11]
theorem refuse_le {s : ByteArray} {S : ASt} {e a : Int} (h : ADet Tryd.prog 5 [Sg s] S (.tup [.agg [nilS],oneP e a]) S) : ADet Tryd.prog 5 [Sg s] S (.tup [noneP,oneP e a]) S:=h.lessT (.cons (.agg (.cons (.p (.nil 16)) (.refl _))) (.refl _))
theorem programLexC (s : ByteArray) (hs : s.size ≤ 4000) (f0 f m e : Nat) (hb : betwF f0 s.data.toList = some m) (hl : lexE f m (s.data.toList.drop m) = some e) (S : ASt) : ADet Tryd.prog 5 [Sg s] S (.tup [noneP,oneP 20 e]) S:=by
 have aC:=fun S=>allEC s hs f0 f m e hb hl S
 have oC:=oneRC 20 e
 refine refuse_le ?_
 unfold oneP
 refine ADet.intro mixed Tryd.call5 Tryd.func5 rfl ?_
 simp [Tryd.ntmps5]
 refine ⟨_,_,aC _,?_⟩
 simp
 refine ⟨_,_,oC _,?_⟩
 simp
def refuseQ (l : List Tok) (s : ByteArray) (p : List It) (s1 : RS) : Option (Int × Int) :=
 if s1.bad = true then some (51,match l[s1.at_]? with | some t=>(t.pos : Int) | none=>(s.size : Int))
 else if s1.full = true ∨ 30 < p.length then some (4,0)
 else if 40 < itsDeep p then some (50,0)
 else none
theorem programGC (n : Nat) (hn : n ≤ 100000) (s : ByteArray) (hsz : s.size ≤ 4000) (m : Nat) (hbt : betwF n s.data.toList = some m) (l : List Tok) (hlx : lexF n m (s.data.toList.drop m) = some l) (hll : l.length ≤ 1500) (p : List It) (s1 : RS) (hit : itemsQ l n n [] ⟨0,false,false⟩ = some (p,s1)) (hp : s1.bad = false → s1.full = false → PrSm p ∧ itsDeep p ≤ 1000000) (e a : Int) (hf : refuseQ l s p s1 = some (e,a)) (S : ASt) : ADet Tryd.prog 5 [Sg s] S (.tup [noneP,oneP e a]) S:=by
 have aC:=fun S=>allC s (by omega) n n m l hbt hlx (by omega) S
 have oC:=oneRC e a
 refine refuse_le ?_
 unfold oneP
 refine ADet.intro mixed Tryd.call5 Tryd.func5 rfl ?_
 simp [Tryd.ntmps5]
 refine ⟨_,_,aC _,?_⟩
 simp
 refine awp_loopG 48 16 (by decide) [.cells [.any] 25,rdO l ⟨0,false,false⟩,.cells [.osl 16 [] 0 3] 25] (fun a : Nat × List It × RS=>itemsQ l n a.1 a.2.1 a.2.2 = some (p,s1) ∧ a.2.1.length + a.1 ≤ n ∧ a.2.2.at_ ≤ l.length) (fun a=>([Sg s,.any,.ptr 0 0 0,.any,.p (.sl 3 (l.map Tok.enc)),.any,.any,.ptr 0 1 0,.ptr 0 2 0] ++ List.replicate 89 .any)) (fun a=>[.cells [.any] 25,rdO l a.2.2,.cells [.osl 16 (a.2.1.map It.enc) 0 3] 25,.tok 48 16 a.2.1.length] :: S) (fun a=>a.1) (n,[],⟨0,false,false⟩) ⟨hit,by simp,Nat.zero_le _⟩ ?_ ?_ ?_ ?_
 ·simp
 ·simp
 ·rfl
 rintro ⟨k,acc,s4⟩ ⟨hl,hkn,hs4⟩
 simp only at hl hkn hs4
 cases k with
 | zero=>simp [itemsQ] at hl
 | succ k =>
 unfold itemsQ at hl
 split at hl
 ·rename_i hgo
  split at hl
  ·cases hl
  rename_i x s5 hx
  obtain ⟨xC,hs5⟩:=itemQW hn (by omega) hs4 hx
  have hlt' : (s4.at_ : Int) < (l.length : Int):=by omega
  have hap : acc.length + 1 ≤ 4294967296:=by omega
  simp [hlt',hgo.2]
  refine awp_draw [(1,3),(1,4)] (by kernel_rfl) (by kernel_rfl) ?_
  simp
  refine ⟨_,_,xC _ 0 1 ⟨rfl,hs4,by omega⟩,?_⟩
  simp [hap]
  exact ⟨k,acc ++ [x],s5,⟨hl,by simp; omega,hs5⟩,by omega,⟨by simp,by simp; rfl⟩⟩
 ·rename_i hgo
  cases hl
  unfold refuseQ at hf
  cases hbad : s1.bad with
  | true =>
   rw [hbad,if_pos rfl] at hf
   by_cases hlt : s1.at_ < l.length
   ·have hlt' : (s1.at_ : Int) < (l.length : Int):=by omega
    rw [List.getElem?_eq_getElem hlt] at hf
    simp only [Option.some.injEq,Prod.mk.injEq] at hf
    obtain ⟨rfl,rfl⟩:=hf
    generalize hy : l[s1.at_] = y at *
    simp [hlt,hlt',hbad,hy,Tok.enc]
    refine ⟨_,_,oC _,?_⟩
    simp
   ·have hlt' : ¬ (s1.at_ : Int) < (l.length : Int):=by omega
    rw [List.getElem?_eq_none (by omega)] at hf
    simp only [Option.some.injEq,Prod.mk.injEq] at hf
    obtain ⟨rfl,rfl⟩:=hf
    simp [hlt',hbad]
    refine ⟨_,_,oC _,?_⟩
    simp
  | false =>
   rw [hbad,if_neg (by simp)] at hf
   have hgo' : ¬ ((s1.at_ : Int) < (l.length : Int)):=by
    intro h
    exact hgo ⟨by omega,hbad⟩
   by_cases hful : s1.full = true
   ·rw [if_pos (.inl hful)] at hf
    cases hf
    simp [hgo',hbad,hful]
    refine ⟨_,_,oC _,?_⟩
    simp
   ·have hful' : s1.full = false:=by simpa using hful
    obtain ⟨hpS,hpd⟩:=hp hbad hful'
    have dC:=fun S=>depthAC p hpS hpd S
    by_cases h30 : 30 < p.length
    ·rw [if_pos (.inr h30)] at hf
     cases hf
     have h30' : (30 : Int) < (p.length : Int):=by omega
     simp [hgo',hbad,hful',h30']
     refine ⟨_,_,oC _,?_⟩
     simp
    ·have h30' : ¬ (30 : Int) < (p.length : Int):=by omega
     rw [if_neg (by rw [hful']; simp; omega)] at hf
     split at hf
     ·rename_i hd
      cases hf
      have hd' : (40 : Int) < (itsDeep p : Int):=by omega
      simp [hgo',hbad,hful',h30']
      refine ⟨_,_,ADet.sub (.cons (.agg (.cons (.osl (.refl _)) (.refl _))) (.refl _)) (dC _),?_⟩
      simp [hd']
      refine ⟨_,_,oC _,?_⟩
      simp
     ·cases hf
def refuN (n : Nat) (s : ByteArray) : Option (Int × Int) :=
 if 4000 < s.size then none
 else match betwF n s.data.toList with
  | none=>none
  | some m =>
   match lexF n m (s.data.toList.drop m) with
   | none=>none
   | some l =>
    if 1500 < l.length then none
    else match itemsQ l n n [] ⟨0,false,false⟩ with
     | none=>none
     | some (p,s1)=>if (s1.bad || s1.full) = true then refuseQ l s p s1 else none
theorem programNC (n : Nat) (hn : n ≤ 100000) (s : ByteArray) (e a : Int) (h : refuN n s = some (e,a)) (S : ASt) : ADet Tryd.prog 5 [Sg s] S (.tup [noneP,oneP e a]) S:=by
 unfold refuN at h
 split at h
 ·cases h
 rename_i hsz
 split at h
 ·cases h
 rename_i m hbt
 split at h
 ·cases h
 rename_i l hlx
 split at h
 ·cases h
 rename_i hll
 split at h
 ·cases h
 rename_i p s1 hit
 split at h
 ·rename_i hb
  exact programGC n hn s (by omega) m hbt l hlx (by omega) p s1 hit (fun h1 h2=>by rw [h1,h2] at hb; simp at hb) e a h S
 ·cases h
end Go.Proofs.YtfiohepfohhibaaDoor
