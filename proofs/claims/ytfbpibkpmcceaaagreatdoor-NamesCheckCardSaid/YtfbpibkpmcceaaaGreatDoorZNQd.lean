/- A part of the proof. The statement is proved in the claim's last text. -/
import Derived.Test.YtfbpibkpmcceaaaGreatDoorZNQc
import Derived.Test.YtfbpibkpmcceaaaGreatDoorZNQb
import Derived.Test.YtfbpibkpmcceaaaGreatDoorZNPf
import Derived.Test.YtfbpibkpmcceaaaGreatDoorZNQa
set_option linter.unusedVariables false
set_option linter.unusedSimpArgs false
set_option maxRecDepth 100000
set_option maxHeartbeats 32000000
namespace Go.Proofs.YtfbpibkpmcceaaaGreatDoor
open Go.RowKit
attribute [local simp] List.replicate List.range List.range.loop resA resOne retA AV.cuts AV.cut AObj.cut trim wkR wkT wkL wkN wkNR wkNL wkM wkMR wkML
theorem stmW_o1 (p : List It) (hp : p.length ≤ 20000) (hx : ∀ x ∈ p,x.fields.length ≤ 20000) (s : St) (d : Int) (hwh : s.whole d = true) (i1 : ∀ x ∈ s.body,StmW p x) (i2 : ∀ x ∈ s.els,StmW p x) (i3 : ∀ a ∈ s.arms,∀ x ∈ a.body,StmW p x) (hop : s.op = 1) : StmW p s:=by
 intro w hb S c h
 have hex:=stWhole_exprs hwh
 have hal : s.arms.length ≤ 20000:=by
  have h9:=hwh
  rw [stWhole_eq] at h9
  simp only [Bool.and_eq_true] at h9
  have:=h9.2.2.2.2.2.2.2.2
  unfold allUp at this
  simp only [Bool.and_eq_true,decide_eq_true_eq] at this
  omega
 refine ADet.okA Tryz.call66 1 10 rfl rfl fun hok=>?_
 have hlen:=okl hok
 have hs:=updW_self h
 have hndS:=stNd s
 obtain ⟨F,hF⟩ : ∃ F : Nat → Wf,F = fun q=>w.add ((s.exprs.take q).flatMap (Ex.rf p w.vars)):=⟨_,rfl⟩
 have hF0 : F 0 = w:=by rw [hF]; simp [Wf.add_nil]
 obtain ⟨w1,hw1⟩ : ∃ w1,w1 = w.add (s.exprs.flatMap (Ex.rf p w.vars)):=⟨_,rfl⟩
 have hFn : F s.exprs.length = w1:=by rw [hF,hw1]; simp
 have hFv : ∀ q,(F q).vars = w.vars:=fun q=>by rw [hF]; rfl
 have hFs : ∀ q (hq : q < s.exprs.length),F (q + 1) = (F q).add (s.exprs[q].rf p (F q).vars):=fun q hq=>by
  rw [hF]
  simp only [List.take_succ_eq_append_getElem hq,List.flatMap_append,Wf.add_add]
  simp [Wf.add]
 have hFb : ∀ q (hq : q < s.exprs.length),(F q).fl.length + s.exprs[q].nd ≤ 4000000000:=fun q hq=>by
  have e1:=sum_mem Ex.nd hq
  have e2:=exsRf_len p w.vars (s.exprs.take q)
  have:=hb.1
  rw [hF]
  simp only [Wf.add,List.length_append]
  omega
 have hwv : w.vars.length ≤ 4294967295:=by have:=hb.2.1; omega
 have hb1 : BdW w1 (s.nd - (s.exprs.map Ex.nd).sum):=by
  rw [hw1]
  exact hb.near (NearW.add w (exsRf_len p w.vars s.exprs)) (by omega)
 have hv1 : w1.vars = w.vars:=by rw [hw1]; rfl
 clear hF
 obtain ⟨u,hu⟩ : ∃ u,u = s.rf0 p w:=⟨_,rfl⟩
 have hbu : BdW u (s.nd - (s.exprs.map Ex.nd).sum - 1):=by rw [hu]; exact hb.near (nearW_0 p s w) (by omega)
 have hit:=fun L=>itselfW p hp s hx hal w1 (by rw [hv1]; exact hwv) (L :: updW p S c w1) c.up ((h.updW w1).cons L)
 simp only [Wg.up] at hit
 have hwr:=fun L=>((wrongQ p 60 s.pos w1.fl (by have:=hb1.1; omega)).inW (w:=w1)).at h L
 obtain ⟨b,hbv⟩ : ∃ b,b = itselfR p w1 s.op s.name s.second s.names.length s.place (s.arms.map armF):=⟨_,rfl⟩
 have hu0 : u = w1.add (wrongL b 60 s.pos):=by
  have e : itselfR p w1 s.op s.name s.second s.names.length s.place (s.arms.map armF) = itselfR p w s.op s.name s.second s.names.length s.place (s.arms.map armF):=by rw [hw1]; rfl
  rw [hu,hbv,e,hw1]
  unfold St.rf0
  rw [if_neg (by omega)]
 rw [← hbv] at hit
 have hrf : s.rf p w = u.mk1 s.name s.pos:=by rw [stRf,if_pos hop,hu]; rfl
 rw [hrf]
 have hmk:=fun L=>(makeW p s.name s.pos u (by have:=hbu.2.1; omega) (by have:=hbu.1; omega)).at h L
 refine ADet.intro mixed Tryz.call66 Tryz.func66 rfl ?_
 simp [Tryz.ntmps66]
 refine awp_loop (fun q : Nat=>q ≤ s.exprs.length) (fun q=>([.ptr (c.d + 1) c.jW 0,.any,.any,.ptr 0 0 0,I q] ++ List.replicate 174 .any)) (fun q=>[.cells (stV s) 60] :: updW p S c (F q)) (fun q=>s.exprs.length - q) 0 (Nat.zero_le _) ?_ ?_ ?_
 ·simp
 ·simp [hF0,hs]
 intro q hq
 by_cases hlt : q < s.exprs.length
 ·have hlt' : (q : Int) < (s.exprs.length : Int):=by omega
  have hw2:=wrap_succ hlt
  have hF1:=hFs q hlt
  have hmu : s.exprs.length - (q + 1) < s.exprs.length - q:=by omega
  have hxe:=fun L=>(exprW p hp s.exprs[q] _ (F q) (hex _ (List.getElem_mem hlt)) (by rw [hFv]; exact hwv) (hFb q hlt)).at h L
  rw [← hF1] at hxe
  generalize he : s.exprs[q] = e at *
  simp [hlt,hlt',he,exEnc]
  refine ⟨_,_,hxe _,?_⟩
  simp
  exact ⟨q + 1,hlt,hmu,hw2,rfl⟩
 have hlt' : ¬ (q : Int) < (s.exprs.length : Int):=by omega
 have hq2 : q = s.exprs.length:=by omega
 subst hq2
 rw [hFn]
 simp
 refine ⟨_,_,hit _,?_⟩
 cases b with
 | true =>
  have hu1 : w1 = u:=by rw [hu0]; simp [wrongL,Wf.add_nil]
  rw [hu1]
  simp [hop]
  refine ⟨_,_,hmk _,?_⟩
  simp
 | false =>
  have hu1 : (⟨w1.vars,w1.opn,w1.fl ++ [(60,s.pos)]⟩ : Wf) = u:=by rw [hu0]; rfl
  rw [hu1] at hwr
  simp [hop]
  refine ⟨_,_,hwr _,?_⟩
  simp [hop]
  refine ⟨_,_,hmk _,?_⟩
  simp
theorem stmW_o10 (p : List It) (hp : p.length ≤ 20000) (hx : ∀ x ∈ p,x.fields.length ≤ 20000) (s : St) (d : Int) (hwh : s.whole d = true) (i1 : ∀ x ∈ s.body,StmW p x) (i2 : ∀ x ∈ s.els,StmW p x) (i3 : ∀ a ∈ s.arms,∀ x ∈ a.body,StmW p x) (hop : s.op = 10) : StmW p s:=by
 intro w hb S c h
 have hex:=stWhole_exprs hwh
 have hal : s.arms.length ≤ 20000:=by
  have h9:=hwh
  rw [stWhole_eq] at h9
  simp only [Bool.and_eq_true] at h9
  have:=h9.2.2.2.2.2.2.2.2
  unfold allUp at this
  simp only [Bool.and_eq_true,decide_eq_true_eq] at this
  omega
 refine ADet.okA Tryz.call66 1 10 rfl rfl fun hok=>?_
 have hlen:=okl hok
 have hs:=updW_self h
 have hndS:=stNd s
 obtain ⟨F,hF⟩ : ∃ F : Nat → Wf,F = fun q=>w.add ((s.exprs.take q).flatMap (Ex.rf p w.vars)):=⟨_,rfl⟩
 have hF0 : F 0 = w:=by rw [hF]; simp [Wf.add_nil]
 obtain ⟨w1,hw1⟩ : ∃ w1,w1 = w.add (s.exprs.flatMap (Ex.rf p w.vars)):=⟨_,rfl⟩
 have hFn : F s.exprs.length = w1:=by rw [hF,hw1]; simp
 have hFv : ∀ q,(F q).vars = w.vars:=fun q=>by rw [hF]; rfl
 have hFs : ∀ q (hq : q < s.exprs.length),F (q + 1) = (F q).add (s.exprs[q].rf p (F q).vars):=fun q hq=>by
  rw [hF]
  simp only [List.take_succ_eq_append_getElem hq,List.flatMap_append,Wf.add_add]
  simp [Wf.add]
 have hFb : ∀ q (hq : q < s.exprs.length),(F q).fl.length + s.exprs[q].nd ≤ 4000000000:=fun q hq=>by
  have e1:=sum_mem Ex.nd hq
  have e2:=exsRf_len p w.vars (s.exprs.take q)
  have:=hb.1
  rw [hF]
  simp only [Wf.add,List.length_append]
  omega
 have hwv : w.vars.length ≤ 4294967295:=by have:=hb.2.1; omega
 have hb1 : BdW w1 (s.nd - (s.exprs.map Ex.nd).sum):=by
  rw [hw1]
  exact hb.near (NearW.add w (exsRf_len p w.vars s.exprs)) (by omega)
 have hv1 : w1.vars = w.vars:=by rw [hw1]; rfl
 clear hF
 obtain ⟨u,hu⟩ : ∃ u,u = s.rf0 p w:=⟨_,rfl⟩
 have hbu : BdW u (s.nd - (s.exprs.map Ex.nd).sum - 1):=by rw [hu]; exact hb.near (nearW_0 p s w) (by omega)
 have hit:=fun L=>itselfW p hp s hx hal w1 (by rw [hv1]; exact hwv) (L :: updW p S c w1) c.up ((h.updW w1).cons L)
 simp only [Wg.up] at hit
 have hwr:=fun L=>((wrongQ p 61 s.pos w1.fl (by have:=hb1.1; omega)).inW (w:=w1)).at h L
 obtain ⟨b,hbv⟩ : ∃ b,b = itselfR p w1 s.op s.name s.second s.names.length s.place (s.arms.map armF):=⟨_,rfl⟩
 have hu0 : u = w1.add (wrongL b 61 s.pos):=by
  have e : itselfR p w1 s.op s.name s.second s.names.length s.place (s.arms.map armF) = itselfR p w s.op s.name s.second s.names.length s.place (s.arms.map armF):=by rw [hw1]; rfl
  rw [hu,hbv,e,hw1]
  unfold St.rf0
  rw [if_pos hop]
 rw [← hbv] at hit
 have hrf : s.rf p w = ⟨u.vars,u.opn,(spawnR p s.body s.pos s.names u.fl).fl ++ wrongL (decide ((spawnR p s.body s.pos s.names u.fl).vars.length ≤ 60)) 4 s.pos⟩:=by rw [stRf,if_neg (by omega),if_neg (by omega),if_neg (by omega),if_neg (by omega),if_neg (by omega),if_pos hop,hu]
 rw [hrf]
 have hsp:=fun L=>(spawnW p s i1 u (hbu.near (NearW.refl u) (by omega))).at h L
 refine ADet.intro mixed Tryz.call66 Tryz.func66 rfl ?_
 simp [Tryz.ntmps66]
 refine awp_loop (fun q : Nat=>q ≤ s.exprs.length) (fun q=>([.ptr (c.d + 1) c.jW 0,.any,.any,.ptr 0 0 0,I q] ++ List.replicate 174 .any)) (fun q=>[.cells (stV s) 60] :: updW p S c (F q)) (fun q=>s.exprs.length - q) 0 (Nat.zero_le _) ?_ ?_ ?_
 ·simp
 ·simp [hF0,hs]
 intro q hq
 by_cases hlt : q < s.exprs.length
 ·have hlt' : (q : Int) < (s.exprs.length : Int):=by omega
  have hw2:=wrap_succ hlt
  have hF1:=hFs q hlt
  have hmu : s.exprs.length - (q + 1) < s.exprs.length - q:=by omega
  have hxe:=fun L=>(exprW p hp s.exprs[q] _ (F q) (hex _ (List.getElem_mem hlt)) (by rw [hFv]; exact hwv) (hFb q hlt)).at h L
  rw [← hF1] at hxe
  generalize he : s.exprs[q] = e at *
  simp [hlt,hlt',he,exEnc]
  refine ⟨_,_,hxe _,?_⟩
  simp
  exact ⟨q + 1,hlt,hmu,hw2,rfl⟩
 have hlt' : ¬ (q : Int) < (s.exprs.length : Int):=by omega
 have hq2 : q = s.exprs.length:=by omega
 subst hq2
 rw [hFn]
 simp
 refine ⟨_,_,hit _,?_⟩
 cases b with
 | true =>
  have hu1 : w1 = u:=by rw [hu0]; simp [wrongL,Wf.add_nil]
  rw [hu1]
  simp [hop]
  rw [← hop]
  refine ⟨_,_,hsp _,?_⟩
  simp
 | false =>
  have hu1 : (⟨w1.vars,w1.opn,w1.fl ++ [(61,s.pos)]⟩ : Wf) = u:=by rw [hu0]; rfl
  rw [hu1] at hwr
  simp [hop]
  refine ⟨_,_,hwr _,?_⟩
  simp [hop]
  rw [← hop]
  refine ⟨_,_,hsp _,?_⟩
  simp
theorem stmW_o11 (p : List It) (hp : p.length ≤ 20000) (hx : ∀ x ∈ p,x.fields.length ≤ 20000) (s : St) (d : Int) (hwh : s.whole d = true) (i1 : ∀ x ∈ s.body,StmW p x) (i2 : ∀ x ∈ s.els,StmW p x) (i3 : ∀ a ∈ s.arms,∀ x ∈ a.body,StmW p x) (hop : s.op = 11) : StmW p s:=by
 intro w hb S c h
 have hex:=stWhole_exprs hwh
 have hal : s.arms.length ≤ 20000:=by
  have h9:=hwh
  rw [stWhole_eq] at h9
  simp only [Bool.and_eq_true] at h9
  have:=h9.2.2.2.2.2.2.2.2
  unfold allUp at this
  simp only [Bool.and_eq_true,decide_eq_true_eq] at this
  omega
 refine ADet.okA Tryz.call66 1 10 rfl rfl fun hok=>?_
 have hlen:=okl hok
 have hs:=updW_self h
 have hndS:=stNd s
 obtain ⟨F,hF⟩ : ∃ F : Nat → Wf,F = fun q=>w.add ((s.exprs.take q).flatMap (Ex.rf p w.vars)):=⟨_,rfl⟩
 have hF0 : F 0 = w:=by rw [hF]; simp [Wf.add_nil]
 obtain ⟨w1,hw1⟩ : ∃ w1,w1 = w.add (s.exprs.flatMap (Ex.rf p w.vars)):=⟨_,rfl⟩
 have hFn : F s.exprs.length = w1:=by rw [hF,hw1]; simp
 have hFv : ∀ q,(F q).vars = w.vars:=fun q=>by rw [hF]; rfl
 have hFs : ∀ q (hq : q < s.exprs.length),F (q + 1) = (F q).add (s.exprs[q].rf p (F q).vars):=fun q hq=>by
  rw [hF]
  simp only [List.take_succ_eq_append_getElem hq,List.flatMap_append,Wf.add_add]
  simp [Wf.add]
 have hFb : ∀ q (hq : q < s.exprs.length),(F q).fl.length + s.exprs[q].nd ≤ 4000000000:=fun q hq=>by
  have e1:=sum_mem Ex.nd hq
  have e2:=exsRf_len p w.vars (s.exprs.take q)
  have:=hb.1
  rw [hF]
  simp only [Wf.add,List.length_append]
  omega
 have hwv : w.vars.length ≤ 4294967295:=by have:=hb.2.1; omega
 have hb1 : BdW w1 (s.nd - (s.exprs.map Ex.nd).sum):=by
  rw [hw1]
  exact hb.near (NearW.add w (exsRf_len p w.vars s.exprs)) (by omega)
 have hv1 : w1.vars = w.vars:=by rw [hw1]; rfl
 clear hF
 obtain ⟨u,hu⟩ : ∃ u,u = s.rf0 p w:=⟨_,rfl⟩
 have hbu : BdW u (s.nd - (s.exprs.map Ex.nd).sum - 1):=by rw [hu]; exact hb.near (nearW_0 p s w) (by omega)
 have hit:=fun L=>itselfW p hp s hx hal w1 (by rw [hv1]; exact hwv) (L :: updW p S c w1) c.up ((h.updW w1).cons L)
 simp only [Wg.up] at hit
 have hwr:=fun L=>((wrongQ p 60 s.pos w1.fl (by have:=hb1.1; omega)).inW (w:=w1)).at h L
 obtain ⟨b,hbv⟩ : ∃ b,b = itselfR p w1 s.op s.name s.second s.names.length s.place (s.arms.map armF):=⟨_,rfl⟩
 have hu0 : u = w1.add (wrongL b 60 s.pos):=by
  have e : itselfR p w1 s.op s.name s.second s.names.length s.place (s.arms.map armF) = itselfR p w s.op s.name s.second s.names.length s.place (s.arms.map armF):=by rw [hw1]; rfl
  rw [hu,hbv,e,hw1]
  unfold St.rf0
  rw [if_neg (by omega)]
 rw [← hbv] at hit
 have hrf : s.rf p w = (blockR p s.body (u.mk1 s.name s.pos)).forget u.vars.length:=by rw [stRf,if_neg (by omega),if_neg (by omega),if_neg (by omega),if_neg (by omega),if_pos hop,hu]; rfl
 rw [hrf]
 have hmk:=fun L=>(makeW p s.name s.pos u (by have:=hbu.2.1; omega) (by have:=hbu.1; omega)).at h L
 have hbm : BdW (u.mk1 s.name s.pos) (s.body.map St.nd).sum:=hbu.near (nearW_mk1 s.name s.pos u) (by omega)
 have hst:=fun L=>(stmtsW p s.body i1 _ hbm).at h L
 have hnb:=nearW_block p (l:=s.body) (fun s _ w=>nearW_st p s w) (u.mk1 s.name s.pos)
 have hnm:=nearW_mk1 s.name s.pos u
 have hfo:=fun L=>(forgetW p u.vars.length (blockR p s.body (u.mk1 s.name s.pos)) (by have:=hnb.2.2.1; have:=hnm.2.2.1; omega) (by have:=hnb.2.2.2.1; have:=hbm.2.1; omega)).at h L
 have huo:=(h.updW u).q.w
 simp only [wkC,Wg.q] at huo
 refine ADet.intro mixed Tryz.call66 Tryz.func66 rfl ?_
 simp [Tryz.ntmps66]
 refine awp_loop (fun q : Nat=>q ≤ s.exprs.length) (fun q=>([.ptr (c.d + 1) c.jW 0,.any,.any,.ptr 0 0 0,I q] ++ List.replicate 174 .any)) (fun q=>[.cells (stV s) 60] :: updW p S c (F q)) (fun q=>s.exprs.length - q) 0 (Nat.zero_le _) ?_ ?_ ?_
 ·simp
 ·simp [hF0,hs]
 intro q hq
 by_cases hlt : q < s.exprs.length
 ·have hlt' : (q : Int) < (s.exprs.length : Int):=by omega
  have hw2:=wrap_succ hlt
  have hF1:=hFs q hlt
  have hmu : s.exprs.length - (q + 1) < s.exprs.length - q:=by omega
  have hxe:=fun L=>(exprW p hp s.exprs[q] _ (F q) (hex _ (List.getElem_mem hlt)) (by rw [hFv]; exact hwv) (hFb q hlt)).at h L
  rw [← hF1] at hxe
  generalize he : s.exprs[q] = e at *
  simp [hlt,hlt',he,exEnc]
  refine ⟨_,_,hxe _,?_⟩
  simp
  exact ⟨q + 1,hlt,hmu,hw2,rfl⟩
 have hlt' : ¬ (q : Int) < (s.exprs.length : Int):=by omega
 have hq2 : q = s.exprs.length:=by omega
 subst hq2
 rw [hFn]
 simp
 refine ⟨_,_,hit _,?_⟩
 cases b with
 | true =>
  have hu1 : w1 = u:=by rw [hu0]; simp [wrongL,Wf.add_nil]
  rw [hu1]
  simp [hop,huo]
  refine ⟨_,_,hmk _,?_⟩
  simp
  refine ⟨_,_,hst _,?_⟩
  simp
  refine ⟨_,_,hfo _,?_⟩
  simp
 | false =>
  have hu1 : (⟨w1.vars,w1.opn,w1.fl ++ [(60,s.pos)]⟩ : Wf) = u:=by rw [hu0]; rfl
  rw [hu1] at hwr
  simp [hop,huo]
  refine ⟨_,_,hwr _,?_⟩
  simp [hop,huo]
  refine ⟨_,_,hmk _,?_⟩
  simp
  refine ⟨_,_,hst _,?_⟩
  simp
  refine ⟨_,_,hfo _,?_⟩
  simp
theorem stmW_o12 (p : List It) (hp : p.length ≤ 20000) (hx : ∀ x ∈ p,x.fields.length ≤ 20000) (s : St) (d : Int) (hwh : s.whole d = true) (i1 : ∀ x ∈ s.body,StmW p x) (i2 : ∀ x ∈ s.els,StmW p x) (i3 : ∀ a ∈ s.arms,∀ x ∈ a.body,StmW p x) (hop : s.op = 12) : StmW p s:=by
 intro w hb S c h
 have hex:=stWhole_exprs hwh
 have hal : s.arms.length ≤ 20000:=by
  have h9:=hwh
  rw [stWhole_eq] at h9
  simp only [Bool.and_eq_true] at h9
  have:=h9.2.2.2.2.2.2.2.2
  unfold allUp at this
  simp only [Bool.and_eq_true,decide_eq_true_eq] at this
  omega
 refine ADet.okA Tryz.call66 1 10 rfl rfl fun hok=>?_
 have hlen:=okl hok
 have hs:=updW_self h
 have hndS:=stNd s
 obtain ⟨F,hF⟩ : ∃ F : Nat → Wf,F = fun q=>w.add ((s.exprs.take q).flatMap (Ex.rf p w.vars)):=⟨_,rfl⟩
 have hF0 : F 0 = w:=by rw [hF]; simp [Wf.add_nil]
 obtain ⟨w1,hw1⟩ : ∃ w1,w1 = w.add (s.exprs.flatMap (Ex.rf p w.vars)):=⟨_,rfl⟩
 have hFn : F s.exprs.length = w1:=by rw [hF,hw1]; simp
 have hFv : ∀ q,(F q).vars = w.vars:=fun q=>by rw [hF]; rfl
 have hFs : ∀ q (hq : q < s.exprs.length),F (q + 1) = (F q).add (s.exprs[q].rf p (F q).vars):=fun q hq=>by
  rw [hF]
  simp only [List.take_succ_eq_append_getElem hq,List.flatMap_append,Wf.add_add]
  simp [Wf.add]
 have hFb : ∀ q (hq : q < s.exprs.length),(F q).fl.length + s.exprs[q].nd ≤ 4000000000:=fun q hq=>by
  have e1:=sum_mem Ex.nd hq
  have e2:=exsRf_len p w.vars (s.exprs.take q)
  have:=hb.1
  rw [hF]
  simp only [Wf.add,List.length_append]
  omega
 have hwv : w.vars.length ≤ 4294967295:=by have:=hb.2.1; omega
 have hb1 : BdW w1 (s.nd - (s.exprs.map Ex.nd).sum):=by
  rw [hw1]
  exact hb.near (NearW.add w (exsRf_len p w.vars s.exprs)) (by omega)
 have hv1 : w1.vars = w.vars:=by rw [hw1]; rfl
 clear hF
 obtain ⟨u,hu⟩ : ∃ u,u = s.rf0 p w:=⟨_,rfl⟩
 have hbu : BdW u (s.nd - (s.exprs.map Ex.nd).sum - 1):=by rw [hu]; exact hb.near (nearW_0 p s w) (by omega)
 have hit:=fun L=>itselfW p hp s hx hal w1 (by rw [hv1]; exact hwv) (L :: updW p S c w1) c.up ((h.updW w1).cons L)
 simp only [Wg.up] at hit
 have hwr:=fun L=>((wrongQ p 60 s.pos w1.fl (by have:=hb1.1; omega)).inW (w:=w1)).at h L
 obtain ⟨b,hbv⟩ : ∃ b,b = itselfR p w1 s.op s.name s.second s.names.length s.place (s.arms.map armF):=⟨_,rfl⟩
 have hu0 : u = w1.add (wrongL b 60 s.pos):=by
  have e : itselfR p w1 s.op s.name s.second s.names.length s.place (s.arms.map armF) = itselfR p w s.op s.name s.second s.names.length s.place (s.arms.map armF):=by rw [hw1]; rfl
  rw [hu,hbv,e,hw1]
  unfold St.rf0
  rw [if_neg (by omega)]
 rw [← hbv] at hit
 obtain ⟨v,hv⟩ : ∃ v,v = u.add (s.type.nm p s.pos):=⟨_,rfl⟩
 obtain ⟨x,hxx⟩ : ∃ x,x = v.mk1 s.name s.pos:=⟨_,rfl⟩
 have hrf : s.rf p w = x.mk1 s.second s.pos:=by rw [stRf,if_neg (by omega),if_neg (by omega),if_pos hop,hxx,hv,hu]; rfl
 rw [hrf]
 have hbv2 : BdW v 2:=by rw [hv]; exact hbu.near (NearW.add u (tyNm_len p s.pos s.type)) (by omega)
 have hbx : BdW x 1:=by rw [hxx]; exact hbv2.near (nearW_mk1 s.name s.pos v) (by omega)
 have hkd:=fun L=>((kindQ p hp s.pos s.type u.fl (by have:=hbu.1; omega)).inW (w:=u)).at h L
 have hkv : (⟨u.vars,u.opn,u.fl ++ s.type.nm p s.pos⟩ : Wf) = v:=by rw [hv]; rfl
 rw [hkv] at hkd
 have hm1:=fun L=>(makeW p s.name s.pos v (by have:=hbv2.2.1; omega) (by have:=hbv2.1; omega)).at h L
 rw [← hxx] at hm1
 have hm2:=fun L=>(makeW p s.second s.pos x (by have:=hbx.2.1; omega) (by have:=hbx.1; omega)).at h L
 refine ADet.intro mixed Tryz.call66 Tryz.func66 rfl ?_
 simp [Tryz.ntmps66]
 refine awp_loop (fun q : Nat=>q ≤ s.exprs.length) (fun q=>([.ptr (c.d + 1) c.jW 0,.any,.any,.ptr 0 0 0,I q] ++ List.replicate 174 .any)) (fun q=>[.cells (stV s) 60] :: updW p S c (F q)) (fun q=>s.exprs.length - q) 0 (Nat.zero_le _) ?_ ?_ ?_
 ·simp
 ·simp [hF0,hs]
 intro q hq
 by_cases hlt : q < s.exprs.length
 ·have hlt' : (q : Int) < (s.exprs.length : Int):=by omega
  have hw2:=wrap_succ hlt
  have hF1:=hFs q hlt
  have hmu : s.exprs.length - (q + 1) < s.exprs.length - q:=by omega
  have hxe:=fun L=>(exprW p hp s.exprs[q] _ (F q) (hex _ (List.getElem_mem hlt)) (by rw [hFv]; exact hwv) (hFb q hlt)).at h L
  rw [← hF1] at hxe
  generalize he : s.exprs[q] = e at *
  simp [hlt,hlt',he,exEnc]
  refine ⟨_,_,hxe _,?_⟩
  simp
  exact ⟨q + 1,hlt,hmu,hw2,rfl⟩
 have hlt' : ¬ (q : Int) < (s.exprs.length : Int):=by omega
 have hq2 : q = s.exprs.length:=by omega
 subst hq2
 rw [hFn]
 simp
 refine ⟨_,_,hit _,?_⟩
 cases b with
 | true =>
  have hu1 : w1 = u:=by rw [hu0]; simp [wrongL,Wf.add_nil]
  rw [hu1]
  simp [hop]
  refine ⟨_,_,hkd _,?_⟩
  simp
  refine ⟨_,_,hm1 _,?_⟩
  simp
  refine ⟨_,_,hm2 _,?_⟩
  simp
 | false =>
  have hu1 : (⟨w1.vars,w1.opn,w1.fl ++ [(60,s.pos)]⟩ : Wf) = u:=by rw [hu0]; rfl
  rw [hu1] at hwr
  simp [hop]
  refine ⟨_,_,hwr _,?_⟩
  simp [hop]
  refine ⟨_,_,hkd _,?_⟩
  simp
  refine ⟨_,_,hm1 _,?_⟩
  simp
  refine ⟨_,_,hm2 _,?_⟩
  simp
theorem stmW_o9 (p : List It) (hp : p.length ≤ 20000) (hx : ∀ x ∈ p,x.fields.length ≤ 20000) (s : St) (d : Int) (hwh : s.whole d = true) (i1 : ∀ x ∈ s.body,StmW p x) (i2 : ∀ x ∈ s.els,StmW p x) (i3 : ∀ a ∈ s.arms,∀ x ∈ a.body,StmW p x) (hop : s.op = 9) : StmW p s:=by
 intro w hb S c h
 have hex:=stWhole_exprs hwh
 have hal : s.arms.length ≤ 20000:=by
  have h9:=hwh
  rw [stWhole_eq] at h9
  simp only [Bool.and_eq_true] at h9
  have:=h9.2.2.2.2.2.2.2.2
  unfold allUp at this
  simp only [Bool.and_eq_true,decide_eq_true_eq] at this
  omega
 refine ADet.okA Tryz.call66 1 10 rfl rfl fun hok=>?_
 have hlen:=okl hok
 have hs:=updW_self h
 have hndS:=stNd s
 obtain ⟨F,hF⟩ : ∃ F : Nat → Wf,F = fun q=>w.add ((s.exprs.take q).flatMap (Ex.rf p w.vars)):=⟨_,rfl⟩
 have hF0 : F 0 = w:=by rw [hF]; simp [Wf.add_nil]
 obtain ⟨w1,hw1⟩ : ∃ w1,w1 = w.add (s.exprs.flatMap (Ex.rf p w.vars)):=⟨_,rfl⟩
 have hFn : F s.exprs.length = w1:=by rw [hF,hw1]; simp
 have hFv : ∀ q,(F q).vars = w.vars:=fun q=>by rw [hF]; rfl
 have hFs : ∀ q (hq : q < s.exprs.length),F (q + 1) = (F q).add (s.exprs[q].rf p (F q).vars):=fun q hq=>by
  rw [hF]
  simp only [List.take_succ_eq_append_getElem hq,List.flatMap_append,Wf.add_add]
  simp [Wf.add]
 have hFb : ∀ q (hq : q < s.exprs.length),(F q).fl.length + s.exprs[q].nd ≤ 4000000000:=fun q hq=>by
  have e1:=sum_mem Ex.nd hq
  have e2:=exsRf_len p w.vars (s.exprs.take q)
  have:=hb.1
  rw [hF]
  simp only [Wf.add,List.length_append]
  omega
 have hwv : w.vars.length ≤ 4294967295:=by have:=hb.2.1; omega
 have hb1 : BdW w1 (s.nd - (s.exprs.map Ex.nd).sum):=by
  rw [hw1]
  exact hb.near (NearW.add w (exsRf_len p w.vars s.exprs)) (by omega)
 have hv1 : w1.vars = w.vars:=by rw [hw1]; rfl
 clear hF
 obtain ⟨u,hu⟩ : ∃ u,u = s.rf0 p w:=⟨_,rfl⟩
 have hbu : BdW u (s.nd - (s.exprs.map Ex.nd).sum - 1):=by rw [hu]; exact hb.near (nearW_0 p s w) (by omega)
 have hit:=fun L=>itselfW p hp s hx hal w1 (by rw [hv1]; exact hwv) (L :: updW p S c w1) c.up ((h.updW w1).cons L)
 simp only [Wg.up] at hit
 have hwr:=fun L=>((wrongQ p 60 s.pos w1.fl (by have:=hb1.1; omega)).inW (w:=w1)).at h L
 obtain ⟨b,hbv⟩ : ∃ b,b = itselfR p w1 s.op s.name s.second s.names.length s.place (s.arms.map armF):=⟨_,rfl⟩
 have hu0 : u = w1.add (wrongL b 60 s.pos):=by
  have e : itselfR p w1 s.op s.name s.second s.names.length s.place (s.arms.map armF) = itselfR p w s.op s.name s.second s.names.length s.place (s.arms.map armF):=by rw [hw1]; rfl
  rw [hu,hbv,e,hw1]
  unfold St.rf0
  rw [if_neg (by omega)]
 rw [← hbv] at hit
 obtain ⟨v,hv⟩ : ∃ v : Wf,v = ⟨u.vars,u.opn + 1,u.fl⟩:=⟨_,rfl⟩
 obtain ⟨x,hxx⟩ : ∃ x,x = blockR p s.body v:=⟨_,rfl⟩
 have hrf : s.rf p w = ⟨x.vars,x.opn - 1,x.fl⟩:=by rw [stRf,if_neg (by omega),if_neg (by omega),if_neg (by omega),if_pos hop,hxx,hv,hu]
 rw [hrf]
 have hbv2 : BdW v (s.body.map St.nd).sum:=by
  obtain ⟨b1,b2,b3⟩:=hbu
  rw [hv]; exact ⟨by simp only; omega,by simp only; omega,by simp only; omega⟩
 have hnb:=nearW_block p (l:=s.body) (fun s _ w=>nearW_st p s w) v
 rw [← hxx] at hnb
 have hxo : x.opn = u.opn + 1:=by have:=hnb.2.2.2.2; rw [this,hv]
 have hst:=fun L=>(stmtsW p s.body i1 _ hbv2).at h L
 rw [← hxx] at hst
 have huo:=(h.updW u).q.w
 have hxw:=(h.updW x).q.w
 have hso : ∀ (a : Wf) (n : Nat),set2 (updW p S c a) c.d c.jW (wkC p (c.q ⟨a.vars,n,a.fl⟩) a.fl.length) = updW p S c ⟨a.vars,n,a.fl⟩:=fun a n=>by
  have hA:=h.updW a
  have e:=updW_self (h.updW ⟨a.vars,n,a.fl⟩)
  refine st_ext (by rw [set_map,updW_map,updW_map]) fun d i=>?_
  have hAw : get2 (updW p S c a) c.d c.jW = some (wkC p (c.q a) a.fl.length):=hA.q.w
  rw [get2_set _ hAw,updW_get h,updW_get h]
  have hne:=h.ne
  by_cases k1 : d = c.d ∧ i = c.jW
  ·rw [if_pos k1,if_neg (by omega),if_pos k1]
  ·rw [if_neg k1,if_neg k1,if_neg k1]
 have hs1:=hso u (u.opn + 1)
 have hs2:=hso x (x.opn - 1)
 have hwa : IntKind.i64.wrap ((u.opn : Int) + 1) = ((u.opn + 1 : Nat) : Int):=wrap_succ (n:=4294967296) (by have:=hbu.2.2; omega) (by unfold maxLen; omega)
 have hwb : IntKind.i64.wrap ((x.opn : Int) - 1) = ((x.opn - 1 : Nat) : Int):=by
  have:=hbu.2.2
  rw [IntWalk.i64_in _ (by omega)]; omega
 simp only [wkC,Wg.q] at huo hxw hs1 hs2
 have hvl : v.vars.length = u.vars.length:=by rw [hv]
 have hvf : v.fl.length = u.fl.length:=by rw [hv]
 refine ADet.intro mixed Tryz.call66 Tryz.func66 rfl ?_
 simp [Tryz.ntmps66]
 refine awp_loop (fun q : Nat=>q ≤ s.exprs.length) (fun q=>([.ptr (c.d + 1) c.jW 0,.any,.any,.ptr 0 0 0,I q] ++ List.replicate 174 .any)) (fun q=>[.cells (stV s) 60] :: updW p S c (F q)) (fun q=>s.exprs.length - q) 0 (Nat.zero_le _) ?_ ?_ ?_
 ·simp
 ·simp [hF0,hs]
 intro q hq
 by_cases hlt : q < s.exprs.length
 ·have hlt' : (q : Int) < (s.exprs.length : Int):=by omega
  have hw2:=wrap_succ hlt
  have hF1:=hFs q hlt
  have hmu : s.exprs.length - (q + 1) < s.exprs.length - q:=by omega
  have hxe:=fun L=>(exprW p hp s.exprs[q] _ (F q) (hex _ (List.getElem_mem hlt)) (by rw [hFv]; exact hwv) (hFb q hlt)).at h L
  rw [← hF1] at hxe
  generalize he : s.exprs[q] = e at *
  simp [hlt,hlt',he,exEnc]
  refine ⟨_,_,hxe _,?_⟩
  simp
  exact ⟨q + 1,hlt,hmu,hw2,rfl⟩
 have hlt' : ¬ (q : Int) < (s.exprs.length : Int):=by omega
 have hq2 : q = s.exprs.length:=by omega
 subst hq2
 rw [hFn]
 simp
 refine ⟨_,_,hit _,?_⟩
 cases b with
 | true =>
  have hu1 : w1 = u:=by rw [hu0]; simp [wrongL,Wf.add_nil]
  rw [hu1]
  simp [hop,huo,hwa,set2_suc]
  rw [show ((u.opn : Int) + 1) = ((u.opn + 1 : Nat) : Int) from rfl,hs1,← hv]
  refine ⟨_,_,hst _,?_⟩
  simp [hxw,hwb,set2_suc]
  rw [hs2]
  try simp
 | false =>
  have hu1 : (⟨w1.vars,w1.opn,w1.fl ++ [(60,s.pos)]⟩ : Wf) = u:=by rw [hu0]; rfl
  rw [hu1] at hwr
  simp [hop,huo,hwa,set2_suc]
  refine ⟨_,_,hwr _,?_⟩
  simp [hop,huo,hwa,set2_suc]
  rw [show ((u.opn : Int) + 1) = ((u.opn + 1 : Nat) : Int) from rfl,hs1,← hv]
  refine ⟨_,_,hst _,?_⟩
  simp [hxw,hwb,set2_suc]
  rw [hs2]
  try simp
end Go.Proofs.YtfbpibkpmcceaaaGreatDoor
