/- A part of the proof. The statement is proved in the claim's last text. -/
import Derived.Test.YtfbpibkpmcceaaaGreatDoorZNQb
import Derived.Test.YtfbpibkpmcceaaaGreatDoorZMLe
set_option linter.unusedVariables false
set_option linter.unusedSimpArgs false
set_option maxRecDepth 100000
set_option maxHeartbeats 32000000
namespace Go.Proofs.YtfbpibkpmcceaaaGreatDoor
open Go.RowKit
def NearW (w : Wf) (n : Nat) (u : Wf) : Prop:=w.fl.length ≤ u.fl.length ∧ u.fl.length ≤ w.fl.length + n ∧ w.vars.length ≤ u.vars.length ∧ u.vars.length ≤ w.vars.length + n ∧ u.opn = w.opn
theorem NearW.trans {a b c : Wf} {n m : Nat} (h : NearW a n b) (k : NearW b m c) : NearW a (n + m) c:=by unfold NearW at *; omega
theorem NearW.le {a b : Wf} {n m : Nat} (h : NearW a n b) (k : n ≤ m) : NearW a m b:=by unfold NearW at *; omega
theorem NearW.refl (a : Wf) : NearW a 0 a:=⟨Nat.le_refl _,Nat.le_refl _,Nat.le_refl _,Nat.le_refl _,rfl⟩
theorem NearW.add (a : Wf) {l : List Flt} {n : Nat} (h : l.length ≤ n) : NearW a n (a.add l):=⟨by simp [Wf.add],by simp [Wf.add]; exact h,Nat.le_refl _,Nat.le_add_right _ _,rfl⟩
theorem nearW_mk1 (s : ByteArray) (pos : Int) (w : Wf) : NearW w 1 (w.mk1 s pos):=by
 have:=wrongN_len (!vHas w.vars s) 60 pos
 exact ⟨by simp [Wf.mk1],by simp only [Wf.mk1,List.length_append]; omega,by simp [Wf.mk1],by simp [Wf.mk1],rfl⟩
theorem nearW_mkS : ∀ (l : List ByteArray) (pos : Int) (w : Wf),NearW w l.length (Wf.mkS l pos w)
 | [],pos,w=>NearW.refl w
 | s :: l,pos,w=>((nearW_mk1 s pos w).trans (nearW_mkS l pos (w.mk1 s pos))).le (by simp; omega)
theorem forget_len (n : Nat) (w : Wf) : (w.forget n).vars.length = w.vars.length:=by
 unfold Wf.forget offs
 simp only [List.length_append,List.length_take,List.length_map,List.length_drop]
 omega
theorem nearW_forget (n : Nat) (w : Wf) : NearW w 0 (w.forget n):=⟨Nat.le_refl _,Nat.le_refl _,by rw [forget_len]; exact Nat.le_refl _,by rw [forget_len]; exact Nat.le_refl _,rfl⟩
theorem nearW_list (p : List It) {l : List St} (h : ∀ s ∈ l,∀ w,NearW w s.nd (s.rf p w)) : ∀ w,NearW w (l.map St.nd).sum (l.foldl (fun w s=>s.rf p w) w):=by
 induction l with
 | nil=>intro w; exact NearW.refl w
 | cons s l ih =>
  intro w
  have h1:=h s (by simp) w
  have h2:=ih (fun y hy=>h y (List.mem_cons_of_mem _ hy)) (s.rf p w)
  rw [List.map_cons,List.sum_cons,List.foldl_cons]
  exact h1.trans h2
theorem nearW_block (p : List It) {l : List St} (h : ∀ s ∈ l,∀ w,NearW w s.nd (s.rf p w)) (w : Wf) : NearW w (l.map St.nd).sum (blockR p l w):=((nearW_list p h w).trans (nearW_forget _ _)).le (by omega)
theorem exsRf_len (p : List It) (m : List Fg) (l : List Ex) : (l.flatMap (Ex.rf p m)).length ≤ (l.map Ex.nd).sum:=flatN_le _ _ _ fun x _=>exRf_len p m x
theorem nearW_0 (p : List It) (s : St) (w : Wf) : NearW w ((s.exprs.map Ex.nd).sum + 1) (s.rf0 p w):=by
 unfold St.rf0
 exact (NearW.add w (exsRf_len p w.vars s.exprs)).trans (NearW.add _ (wrongN_len _ _ _))
theorem nearW_st (p : List It) : ∀ (s : St) (w : Wf),NearW w s.nd (s.rf p w):=by
 refine St.ind fun s i1 i2 i3 w=>?_
 have h0:=nearW_0 p s w
 have hnd:=stNd s
 rw [stRf]
 generalize s.rf0 p w = u at *
 split
 ·exact (h0.trans (nearW_mkS _ _ _)).le (by simp; omega)
 split
 ·exact (h0.trans (nearW_mkS _ _ _)).le (by omega)
 split
 ·exact ((h0.trans (NearW.add _ (tyNm_len p s.pos s.type))).trans (nearW_mkS _ _ _)).le (by simp; omega)
 split
 ·have h1:=nearW_block p i1 ⟨u.vars,u.opn + 1,u.fl⟩
  obtain ⟨f1,f2,f3,f4,f5⟩:=h1
  obtain ⟨e1,e2,e3,e4,e5⟩:=h0
  simp only at f1 f2 f3 f4 f5
  refine ⟨?_,?_,?_,?_,?_⟩
  ·show w.fl.length ≤ (blockR _ _ _).fl.length; omega
  ·show (blockR _ _ _).fl.length ≤ _; omega
  ·show w.vars.length ≤ (blockR _ _ _).vars.length; omega
  ·show (blockR _ _ _).vars.length ≤ _; omega
  ·show (blockR _ _ _).opn - 1 = _; omega
 split
 ·exact (((h0.trans (nearW_mkS _ _ _)).trans (nearW_block p i1 _)).trans (nearW_forget _ _)).le (by simp; omega)
 split
 ·have h1:=nearW_mkS s.names s.pos ⟨[],0,u.fl⟩
  have h2:=h1.trans (nearW_block p i1 (Wf.mkS s.names s.pos ⟨[],0,u.fl⟩))
  have hS : spawnR p s.body s.pos s.names u.fl = blockR p s.body (Wf.mkS s.names s.pos ⟨[],0,u.fl⟩):=rfl
  rw [← hS] at h2
  generalize spawnR p s.body s.pos s.names u.fl = G at *
  have w2:=wrongN_len (decide (G.vars.length ≤ 60)) 4 s.pos
  obtain ⟨f1,f2,f3,f4,f5⟩:=h2
  obtain ⟨e1,e2,e3,e4,e5⟩:=h0
  simp only at f1 f2
  exact ⟨by simp only [List.length_append]; omega,by simp only [List.length_append]; omega,e3,by simp only; omega,e5⟩
 ·have h1:=nearW_block p i1 u
  have h2:=nearW_block p i2 (blockR p s.body u)
  have key : ∀ (l : List Ar),(∀ a ∈ l,a ∈ s.arms) → ∀ τ : Wf,NearW τ (l.map Ar.nd).sum (l.foldl (fun w a=>a.rf p s.pos w) τ):=by
   intro l
   induction l with
   | nil=>intro _ τ; exact NearW.refl τ
   | cons a l ih =>
    intro hl τ
    have h1 : NearW τ ((oneN a.name).length + (a.body.map St.nd).sum) (a.rf p s.pos τ):=(((nearW_mkS _ _ _).trans (nearW_block p (i3 a (hl a (by simp))) _)).trans (nearW_forget _ _)).le (by omega)
    have h2:=ih (fun y hy=>hl y (List.mem_cons_of_mem _ hy)) (a.rf p s.pos τ)
    have ho:=oneN_len a.name
    have hn:=arNd a
    rw [List.map_cons,List.sum_cons,List.foldl_cons]
    exact (h1.trans h2).le (by omega)
  exact (((h0.trans h1).trans h2).trans (key s.arms (fun a h=>h) _)).le (by omega)
def BdW (w : Wf) (n : Nat) : Prop:=w.fl.length + n ≤ 4000000000 ∧ w.vars.length + n ≤ 4000000000 ∧ w.opn + n ≤ 4000000000
theorem BdW.near {w u : Wf} {n m k : Nat} (h : BdW w k) (hn : NearW w n u) (hk : n + m ≤ k) : BdW u m:=by
 obtain ⟨h1,h2,h3⟩:=h
 obtain ⟨n1,n2,n3,n4,n5⟩:=hn
 exact ⟨by omega,by omega,by rw [n5]; omega⟩
def StmW (p : List It) (s : St) : Prop:=∀ w,BdW w s.nd → WC p 66 [.agg (stV s)] w (s.rf p w)
end Go.Proofs.YtfbpibkpmcceaaaGreatDoor
namespace Go.Proofs.YtfbpibkpmcceaaaGreatDoor
open Go.RowKit
attribute [local simp] List.replicate List.range List.range.loop resA resOne retA AV.cuts AV.cut AObj.cut trim wkR wkT wkL wkN wkNR wkNL wkM wkMR wkML
theorem stmtsW (p : List It) (l : List St) (hl : ∀ s ∈ l,StmW p s) (w : Wf) (hb : BdW w (l.map St.nd).sum) : WC p 111 [.p (.sl 15 (l.map St.enc))] w (blockR p l w):=fun S c h=>by
 refine ADet.okP Tryz.call111 1 rfl fun hok=>?_
 have hlen:=okl hok
 have hself:=updW_self h
 obtain ⟨F,hF⟩ : ∃ F : Nat → Wf,F = fun q=>(l.take q).foldl (fun w s=>s.rf p w) w:=⟨_,rfl⟩
 have hF0 : F 0 = w:=by rw [hF]; simp
 have hFn : (F l.length).forget w.vars.length = blockR p l w:=by rw [hF]; simp; rfl
 have hFs : ∀ q (hq : q < l.length),F (q + 1) = l[q].rf p (F q):=fun q hq=>by
  rw [hF]
  simp only [List.take_succ_eq_append_getElem hq,List.foldl_append,List.foldl_cons,List.foldl_nil]
 have hFb : ∀ q (hq : q < l.length),BdW (F q) l[q].nd:=fun q hq=>by
  have e1:=sum_mem St.nd hq
  have e2:=nearW_list p (l:=l.take q) (fun s _ w=>nearW_st p s w) w
  rw [hF]
  exact hb.near e2 (by omega)
 have hFe : NearW w (l.map St.nd).sum (F l.length):=by
  rw [hF]
  simp only [List.take_length]
  exact nearW_list p (fun s _ w=>nearW_st p s w) w
 clear hF
 rw [← hFn]
 have hfg:=fun L=>(forgetW p w.vars.length (F l.length) hFe.2.2.1 (by have:=hFe.2.2.2.1; have:=hb.2.1; omega)).at h L
 have ho:=h.q.w
 simp only [wkC,Wg.q] at ho
 refine ADet.intro mixed Tryz.call111 Tryz.func111 rfl ?_
 simp [Tryz.ntmps111,ho]
 refine awp_loop (fun q : Nat=>q ≤ l.length) (fun q=>([.ptr (c.d + 1) c.jW 0,.p (.sl 15 (l.map St.enc)),.any,.any,I w.vars.length,I q] ++ List.replicate 20 .any)) (fun q=>[] :: updW p S c (F q)) (fun q=>l.length - q) 0 (Nat.zero_le _) ?_ ?_ ?_
 ·simp
 ·simp [hF0,hself]
 intro q hq
 by_cases hlt : q < l.length
 ·have hlt' : (q : Int) < (l.length : Int):=by omega
  have hw2:=wrap_succ hlt
  have hF1:=hFs q hlt
  have hmu : l.length - (q + 1) < l.length - q:=by omega
  have hx:=fun L=>(hl _ (List.getElem_mem hlt) (F q) (hFb q hlt)).at h L
  rw [← hF1] at hx
  generalize he : l[q] = s at *
  simp [hlt,hlt',he,stEnc]
  refine ⟨_,_,hx _,?_⟩
  simp
  exact ⟨q + 1,hlt,hmu,hw2,rfl⟩
 ·have hlt' : ¬ (q : Int) < (l.length : Int):=by omega
  have hq2 : q = l.length:=by omega
  subst hq2
  simp
  refine ⟨_,_,hfg _,?_⟩
  simp
end Go.Proofs.YtfbpibkpmcceaaaGreatDoor
namespace Go.Proofs.YtfbpibkpmcceaaaGreatDoor
open Go.RowKit
attribute [local simp] List.replicate List.range List.range.loop resA resOne retA AV.cuts AV.cut AObj.cut trim wkR wkT wkL wkN wkNR wkNL wkM wkMR wkML virtL virtO virt_get markL markO markR_get rowA awpI_nil awpI_cons List.forall_mem_cons List.contains_cons List.contains_nil List.find? nextD_eq awpD_nil awpD_cons LCp LCl refL
def cS (c : Wg) : Wg:=⟨0,c.k + c.d + 1,1,2⟩
def levS (p : List It) (s : St) (c : Wg) (v : Wf) : List AObj:=[.cells (stV s) 60,wkC p ((cS c).q v) v.fl.length,rvO v.vars]
def basS (S : ASt) (c : Wg) (fl : List Flt) : ASt:=set2 S (c.k + c.d) 2 (rwO fl)
theorem levSAt {p : List It} {S : ASt} {c : Wg} {w : Wf} (h : WAt p S c w) (s : St) (v : Wf) : WAt p (levS p s c v :: basS S c v.fl) (cS c) v:=by
 have hr : get2 S (c.k + c.d) 2 = some (rwO w.fl):=h.q.r
 refine ⟨⟨rfl,?_,fun e=>?_⟩,rfl,by unfold cS; simp,fun e=>by unfold cS at e; simp at e⟩
 ·show get2 (basS S c v.fl) (c.k + c.d) 2 = _
  unfold basS
  rw [get2_set _ hr,if_pos ⟨rfl,rfl⟩]
 ·unfold Wg.q cS; simp
theorem levSUpd {p : List It} {S : ASt} {c : Wg} (s : St) (v u : Wf) : updW p (levS p s c v :: basS S c v.fl) (cS c) u = levS p s c u :: basS S c u.fl:=by
 have e : updQ p (levS p s c v :: basS S c v.fl) ((cS c).q u) u.fl = set2 (levS p s c v :: basS S c u.fl) 0 1 (wkC p ((cS c).q u) u.fl.length):=by
  unfold updQ
  show set2 (set2 (levS p s c v :: basS S c v.fl) (c.k + c.d + 1) 2 _) 0 1 _ = _
  rw [set2_suc]
  unfold basS
  rw [set2_set2]
 unfold updW
 rw [e]
 rfl
theorem wkMR_self (k i : Nat) : ∀ l : List AV,wkMR k i l l
 | []=>trivial
 | a :: l=>⟨.inr (.inl rfl),wkMR_self k i l⟩
theorem basS_self {p : List It} {S : ASt} {c : Wg} {w : Wf} (h : WAt p S c w) : basS S c w.fl = S:=by
 have hr : get2 S (c.k + c.d) 2 = some (rwO w.fl):=h.q.r
 refine st_ext (by unfold basS; rw [set_map]) fun d i=>?_
 unfold basS
 rw [get2_set _ hr]
 split
 ·rename_i hc; rw [hc.1,hc.2,hr]
 ·rfl
theorem rv_cut (n : Nat) (v : List Fg) : AObj.cut n (rvO v) = rvO v:=by
 show AObj.row _ _ _ (AV.cuts n (rowC vrE v)) = _
 rw [rowC_cut]
 rfl
theorem spawnW (p : List It) (s : St) (hl : ∀ x ∈ s.body,StmW p x) (w : Wf) (hb : BdW w (1 + (s.names.length + (s.body.map St.nd).sum))) : WC p 113 [.agg (stV s)] w ⟨w.vars,w.opn,(spawnR p s.body s.pos s.names w.fl).fl ++ wrongL (decide ((spawnR p s.body s.pos s.names w.fl).vars.length ≤ 60)) 4 s.pos⟩:=fun S c h=>by
 refine ADet.okA Tryz.call113 1 3 rfl rfl fun hok=>?_
 have hlen : s.names.length ≤ maxLen:=okl hok
 obtain ⟨v0,hv0⟩ : ∃ v0 : Wf,v0 = ⟨[],0,w.fl⟩:=⟨_,rfl⟩
 obtain ⟨F,hF⟩ : ∃ F : Nat → Wf,F = fun q=>Wf.mkS (s.names.take q) s.pos v0:=⟨_,rfl⟩
 have hmk : ∀ (a b : List ByteArray) (u : Wf),Wf.mkS (a ++ b) s.pos u = Wf.mkS b s.pos (Wf.mkS a s.pos u):=by
  intro a
  induction a with
  | nil=>intro b u; rfl
  | cons x a ih=>intro b u; exact ih b _
 have hF0 : F 0 = v0:=by rw [hF]; simp [Wf.mkS]
 have hFs : ∀ q (hq : q < s.names.length),F (q + 1) = (F q).mk1 s.names[q] s.pos:=fun q hq=>by
  rw [hF]
  simp only [List.take_succ_eq_append_getElem hq,hmk]
  rfl
 have hb0 : BdW v0 (1 + (s.names.length + (s.body.map St.nd).sum)):=by
  obtain ⟨b1,b2,b3⟩:=hb
  rw [hv0]
  exact ⟨by simp only; omega,by simp only [List.length_nil]; omega,by simp only; omega⟩
 have hFb : ∀ q,q < s.names.length → BdW (F q) 1:=fun q hq=>by
  have e2:=nearW_mkS (s.names.take q) s.pos v0
  rw [hF]
  exact hb0.near e2 (by simp; omega)
 have hbn : BdW (F s.names.length) (1 + (s.body.map St.nd).sum):=by
  have e2:=nearW_mkS s.names s.pos v0
  rw [hF]
  simp only [List.take_length]
  exact hb0.near e2 (by omega)
 obtain ⟨u,hu⟩ : ∃ u,u = blockR p s.body (F s.names.length):=⟨_,rfl⟩
 have hus : spawnR p s.body s.pos s.names w.fl = u:=by rw [hu,hF,hv0]; simp only [List.take_length]; rfl
 rw [hus]
 have hun : NearW (F s.names.length) (s.body.map St.nd).sum u:=by rw [hu]; exact nearW_block p (fun s _ w=>nearW_st p s w) _
 clear hF
 have hst:=stmtsW p s.body hl (F s.names.length) ⟨by have:=hbn.1; omega,by have:=hbn.2.1; omega,by have:=hbn.2.2; omega⟩ _ _ (levSAt h s (F s.names.length))
 rw [levSUpd,← hu] at hst
 have hmkW : ∀ q (hq : q < s.names.length),ADet Tryz.prog 110 [.ptr 0 1 0,Sg s.names[q],I s.pos] (levS p s c (F q) :: basS S c (F q).fl) .un (levS p s c (F (q + 1)) :: basS S c (F (q + 1)).fl):=fun q hq=>by
  have hb1:=hFb q hq
  have:=makeW p s.names[q] s.pos (F q) (by have:=hb1.2.1; omega) (by have:=hb1.1; omega) _ _ (levSAt h s (F q))
  rw [levSUpd,← hFs q hq] at this
  exact this
 have hgl : u.fl.length + 1 ≤ 4294967296:=by have:=hun.2.1; have:=hbn.1; omega
 have hwr:=fun L=>((wrongQ p 4 s.pos u.fl hgl).inW (w:=⟨w.vars,w.opn,u.fl⟩)).at h L
 have e0 : set2 (basS S c u.fl) c.d c.jW (wkC p (c.q w) u.fl.length) = updW p S c ⟨w.vars,w.opn,u.fl⟩:=by rw [← updW_fl h]; rfl
 have ho:=h.q.w
 have hr : get2 S (c.k + c.d) 2 = some (rwO w.fl):=h.q.r
 have hne : c.k = 0 → c.jW ≠ 2:=h.q.ne
 have hoB : ∀ fl,get2 (basS S c fl) c.d c.jW = some (wkC p (c.q w) w.fl.length):=fun fl=>by
  unfold basS
  rw [get2_set _ hr,if_neg (by omega)]
  exact ho
 have hA:=(h.updW ⟨w.vars,w.opn,u.fl⟩).q.w
 simp only [wkC,Wg.q] at ho hoB e0 hA
 refine ADet.intro mixed Tryz.call113 Tryz.func113 rfl ?_
 simp [Tryz.ntmps113]
 refine awp_draw [] (by kernel_rfl) (by kernel_rfl) ?_
 simp [ho]
 refine awp_loopR 117 2 (by decide) [.cells (stV s) 60,wkC p ((cS c).q v0) v0.fl.length] (fun q : Nat=>q ≤ s.names.length) (fun q=>([.ptr (c.d + 1) c.jW 0,.any,.any,.ptr 0 0 0,.ptr 0 1 0,I q] ++ List.replicate 47 .any)) (fun q=>levS p s c (F q) :: basS S c (F q).fl) (fun q=>s.names.length - q) (fun _=>3) 0 (Nat.zero_le _) ?_ ?_ ?_ ?_ ?_
 ·intro q _; simp [levS]
 ·simp
 ·rw [hv0]
  exact ⟨⟨rfl,wkMR_self _ _ _⟩,⟨rfl,.inr (.inl rfl),.inr (.inl rfl),.inr (.inr ⟨rfl,rfl⟩),.inr (.inl rfl),trivial⟩,trivial⟩
 ·rw [hF0,hv0]
  have:=basS_self h
  simp only
  rw [this]
  rfl
 intro q hq
 by_cases hlt : q < s.names.length
 ·have hlt' : (q : Int) < (s.names.length : Int):=by omega
  have hw2:=wrap_succ hlt
  have hmu : s.names.length - (q + 1) < s.names.length - q:=by omega
  have hmq:=hmkW q hlt
  generalize he : s.names[q] = x at *
  simp [hlt,hlt',he,levS,strs]
  refine awp_draw [] (by kernel_rfl) (by kernel_rfl) ?_
  simp [hlt,he,strs]
  refine ⟨_,_,hmq,?_⟩
  simp [levS]
  refine ⟨q + 1,hlt,hmu,hw2,?_,rfl⟩
  show wkL [wkC p ((cS c).q (F (q + 1))) (F (q + 1)).fl.length,AObj.cut 3 (rvO (F (q + 1)).vars)] _
  rw [rv_cut]
  exact ⟨⟨rfl,wkR_refl _⟩,⟨⟨rfl,rfl,rfl⟩,wkR_refl _⟩,trivial⟩
 ·have hlt' : ¬ (q : Int) < (s.names.length : Int):=by omega
  have hq2 : q = s.names.length:=by omega
  subst hq2
  simp [levS,strs]
  refine ⟨_,_,hst,?_⟩
  simp [levS,wkC,Wg.q,cS,hoB]
  rw [e0]
  by_cases h60 : u.vars.length ≤ 60
  ·have h6 : ¬ (60 : Int) < (u.vars.length : Int):=by omega
   have e : u.fl ++ wrongL (decide (u.vars.length ≤ 60)) 4 s.pos = u.fl:=by rw [decide_eq_true h60]; simp [wrongL]
   rw [e,if_neg h6]
   try simp
  ·have h6 : (60 : Int) < (u.vars.length : Int):=by omega
   have e : u.fl ++ wrongL (decide (u.vars.length ≤ 60)) 4 s.pos = u.fl ++ [(4,s.pos)]:=by rw [decide_eq_false h60]; rfl
   rw [e,if_pos h6]
   refine ⟨_,_,hwr _,?_⟩
   simp
end Go.Proofs.YtfbpibkpmcceaaaGreatDoor
