/- A part of the proof. The statement is proved in the claim's last text. -/
import Derived.Test.YtfbpibkpmcceaaaGreatDoorZNQc
import Derived.Test.YtfbpibkpmcceaaaGreatDoorZNQb
import Derived.Test.YtfbpibkpmcceaaaGreatDoorZNPf
set_option linter.unusedVariables false
set_option linter.unusedSimpArgs false
set_option maxRecDepth 100000
set_option maxHeartbeats 32000000
namespace Go.Proofs.YtfbpibkpmcceaaaGreatDoor
open Go.RowKit
attribute [local simp] List.replicate List.range List.range.loop resA resOne retA AV.cuts AV.cut AObj.cut trim wkR wkT wkL wkN wkNR wkNL wkM wkMR wkML virtL virtO virt_get markL markO markR_get rowA awpI_nil awpI_cons List.forall_mem_cons List.contains_cons List.contains_nil List.find? nextD_eq awpD_nil awpD_cons LCp LCl refL
theorem stmW_o2 (p : List It) (hp : p.length ≤ 20000) (hx : ∀ x ∈ p,x.fields.length ≤ 20000) (s : St) (d : Int) (hwh : s.whole d = true) (i1 : ∀ x ∈ s.body,StmW p x) (i2 : ∀ x ∈ s.els,StmW p x) (i3 : ∀ a ∈ s.arms,∀ x ∈ a.body,StmW p x) (hop : s.op = 2) : StmW p s:=by
 intro w hb S c h
 have hex:=stWhole_exprs hwh
 have hal : s.arms.length ≤ 20000:=by
  have h9:=hwh
  rw [stWhole_eq] at h9
  simp only [Bool.and_eq_true] at h9
  have:=h9.2.2.2.2.2.2.2.2
  unfold allUp at this
  simp only [Bool.and_eq_true,decide_eq_true_eq] at this
  omega
 refine ADet.okA Tryz.call66 1 10 rfl rfl fun hok=>?_
 have hlen:=okl hok
 have hs:=updW_self h
 have hndS:=stNd s
 obtain ⟨F,hF⟩ : ∃ F : Nat → Wf,F = fun q=>w.add ((s.exprs.take q).flatMap (Ex.rf p w.vars)):=⟨_,rfl⟩
 have hF0 : F 0 = w:=by rw [hF]; simp [Wf.add_nil]
 obtain ⟨w1,hw1⟩ : ∃ w1,w1 = w.add (s.exprs.flatMap (Ex.rf p w.vars)):=⟨_,rfl⟩
 have hFn : F s.exprs.length = w1:=by rw [hF,hw1]; simp
 have hFv : ∀ q,(F q).vars = w.vars:=fun q=>by rw [hF]; rfl
 have hFs : ∀ q (hq : q < s.exprs.length),F (q + 1) = (F q).add (s.exprs[q].rf p (F q).vars):=fun q hq=>by
  rw [hF]
  simp only [List.take_succ_eq_append_getElem hq,List.flatMap_append,Wf.add_add]
  simp [Wf.add]
 have hFb : ∀ q (hq : q < s.exprs.length),(F q).fl.length + s.exprs[q].nd ≤ 4000000000:=fun q hq=>by
  have e1:=sum_mem Ex.nd hq
  have e2:=exsRf_len p w.vars (s.exprs.take q)
  have:=hb.1
  rw [hF]
  simp only [Wf.add,List.length_append]
  omega
 have hwv : w.vars.length ≤ 4294967295:=by have:=hb.2.1; omega
 have hb1 : BdW w1 (s.nd - (s.exprs.map Ex.nd).sum):=by
  rw [hw1]
  exact hb.near (NearW.add w (exsRf_len p w.vars s.exprs)) (by omega)
 have hv1 : w1.vars = w.vars:=by rw [hw1]; rfl
 clear hF
 obtain ⟨u,hu⟩ : ∃ u,u = s.rf0 p w:=⟨_,rfl⟩
 have hbu : BdW u (s.nd - (s.exprs.map Ex.nd).sum - 1):=by rw [hu]; exact hb.near (nearW_0 p s w) (by omega)
 have hit:=fun L=>itselfW p hp s hx hal w1 (by rw [hv1]; exact hwv) (L :: updW p S c w1) c.up ((h.updW w1).cons L)
 simp only [Wg.up] at hit
 have hwr:=fun L=>((wrongQ p 60 s.pos w1.fl (by have:=hb1.1; omega)).inW (w:=w1)).at h L
 obtain ⟨b,hbv⟩ : ∃ b,b = itselfR p w1 s.op s.name s.second s.names.length s.place (s.arms.map armF):=⟨_,rfl⟩
 have hu0 : u = w1.add (wrongL b 60 s.pos):=by
  have e : itselfR p w1 s.op s.name s.second s.names.length s.place (s.arms.map armF) = itselfR p w s.op s.name s.second s.names.length s.place (s.arms.map armF):=by rw [hw1]; rfl
  rw [hu,hbv,e,hw1]
  unfold St.rf0
  rw [if_neg (by omega)]
 rw [← hbv] at hit
 obtain ⟨G,hG⟩ : ∃ G : Nat → Wf,G = fun q=>Wf.mkS (s.names.take q) s.pos u:=⟨_,rfl⟩
 have hmks : ∀ (a b : List ByteArray) (u : Wf),Wf.mkS (a ++ b) s.pos u = Wf.mkS b s.pos (Wf.mkS a s.pos u):=by
  intro a
  induction a with
  | nil=>intro b u; rfl
  | cons x a ih=>intro b u; exact ih b _
 have hG0 : G 0 = u:=by rw [hG]; rfl
 have hrf : s.rf p w = G s.names.length:=by rw [stRf,if_neg (by omega),if_pos hop,hG,hu]; simp
 have hGs : ∀ q (hq : q < s.names.length),G (q + 1) = (G q).mk1 s.names[q] s.pos:=fun q hq=>by
  rw [hG]
  simp only [List.take_succ_eq_append_getElem hq,hmks]
  rfl
 have hGb : ∀ q,q < s.names.length → BdW (G q) 1:=fun q hq=>by
  have e2:=nearW_mkS (s.names.take q) s.pos u
  rw [hG]
  exact hbu.near e2 (by simp; omega)
 rw [hrf]
 clear hG
 have hnl : s.names.length ≤ maxLen:=by have:=hb.1; unfold maxLen; omega
 refine ADet.intro mixed Tryz.call66 Tryz.func66 rfl ?_
 simp [Tryz.ntmps66]
 refine awp_loop (fun q : Nat=>q ≤ s.exprs.length) (fun q=>([.ptr (c.d + 1) c.jW 0,.any,.any,.ptr 0 0 0,I q] ++ List.replicate 174 .any)) (fun q=>[.cells (stV s) 60] :: updW p S c (F q)) (fun q=>s.exprs.length - q) 0 (Nat.zero_le _) ?_ ?_ ?_
 ·simp
 ·simp [hF0,hs]
 intro q hq
 by_cases hlt : q < s.exprs.length
 ·have hlt' : (q : Int) < (s.exprs.length : Int):=by omega
  have hw2:=wrap_succ hlt
  have hF1:=hFs q hlt
  have hmu : s.exprs.length - (q + 1) < s.exprs.length - q:=by omega
  have hxe:=fun L=>(exprW p hp s.exprs[q] _ (F q) (hex _ (List.getElem_mem hlt)) (by rw [hFv]; exact hwv) (hFb q hlt)).at h L
  rw [← hF1] at hxe
  generalize he : s.exprs[q] = e at *
  simp [hlt,hlt',he,exEnc]
  refine ⟨_,_,hxe _,?_⟩
  simp
  exact ⟨q + 1,hlt,hmu,hw2,rfl⟩
 have hlt' : ¬ (q : Int) < (s.exprs.length : Int):=by omega
 have hq2 : q = s.exprs.length:=by omega
 subst hq2
 rw [hFn]
 simp
 refine ⟨_,_,hit _,?_⟩
 cases b with
 | true =>
  have hu1 : w1 = u:=by rw [hu0]; simp [wrongL,Wf.add_nil]
  rw [hu1]
  simp [hop]
  refine awp_loop (fun q : Nat=>q ≤ s.names.length) (fun q=>([.ptr (c.d + 1) c.jW 0,.any,.any,.ptr 0 0 0,.any,I q] ++ List.replicate 173 .any)) (fun q=>[.cells (stV s) 60] :: updW p S c (G q)) (fun q=>s.names.length - q) 0 (Nat.zero_le _) ?_ ?_ ?_
  ·simp
  ·simp [hG0,hop]
   try rw [← hop]
  intro q hq
  by_cases hln : q < s.names.length
  ·have hln' : (q : Int) < (s.names.length : Int):=by omega
   have hw3:=wrap_succ hln hnl
   have hG1:=hGs q hln
   have hmu3 : s.names.length - (q + 1) < s.names.length - q:=by omega
   have hbq:=hGb q hln
   have hmk:=fun L=>(makeW p s.names[q] s.pos (G q) (by have:=hbq.2.1; omega) (by have:=hbq.1; omega)).at h L
   rw [← hG1] at hmk
   generalize he : s.names[q] = x at *
   simp [hln,hln',he,strs]
   refine awp_draw [] (by kernel_rfl) (by kernel_rfl) ?_
   simp [hln,he,strs]
   refine ⟨_,_,hmk _,?_⟩
   simp
   exact ⟨q + 1,hln,hmu3,hw3,rfl⟩
  ·have hln' : ¬ (q : Int) < (s.names.length : Int):=by omega
   have hq3 : q = s.names.length:=by omega
   subst hq3
   simp [strs]
 | false =>
  have hu1 : (⟨w1.vars,w1.opn,w1.fl ++ [(60,s.pos)]⟩ : Wf) = u:=by rw [hu0]; rfl
  rw [hu1] at hwr
  simp [hop]
  refine ⟨_,_,hwr _,?_⟩
  simp [hop]
  refine awp_loop (fun q : Nat=>q ≤ s.names.length) (fun q=>([.ptr (c.d + 1) c.jW 0,.any,.any,.ptr 0 0 0,.any,I q] ++ List.replicate 173 .any)) (fun q=>[.cells (stV s) 60] :: updW p S c (G q)) (fun q=>s.names.length - q) 0 (Nat.zero_le _) ?_ ?_ ?_
  ·simp
  ·simp [hG0,hop]
   try rw [← hop]
  intro q hq
  by_cases hln : q < s.names.length
  ·have hln' : (q : Int) < (s.names.length : Int):=by omega
   have hw3:=wrap_succ hln hnl
   have hG1:=hGs q hln
   have hmu3 : s.names.length - (q + 1) < s.names.length - q:=by omega
   have hbq:=hGb q hln
   have hmk:=fun L=>(makeW p s.names[q] s.pos (G q) (by have:=hbq.2.1; omega) (by have:=hbq.1; omega)).at h L
   rw [← hG1] at hmk
   generalize he : s.names[q] = x at *
   simp [hln,hln',he,strs]
   refine awp_draw [] (by kernel_rfl) (by kernel_rfl) ?_
   simp [hln,he,strs]
   refine ⟨_,_,hmk _,?_⟩
   simp
   exact ⟨q + 1,hln,hmu3,hw3,rfl⟩
  ·have hln' : ¬ (q : Int) < (s.names.length : Int):=by omega
   have hq3 : q = s.names.length:=by omega
   subst hq3
   simp [strs]
theorem nearW_ar (p : List It) (pos : Int) (a : Ar) (w : Wf) : NearW w a.nd (a.rf p pos w):=by
 have ho:=oneN_len a.name
 have hn:=arNd a
 exact (((nearW_mkS (oneN a.name) pos w).trans (nearW_block p (fun s _ w=>nearW_st p s w) _)).trans (nearW_forget _ _)).le (by omega)
theorem nearW_ars (p : List It) (pos : Int) : ∀ (l : List Ar) (w : Wf),NearW w (l.map Ar.nd).sum (l.foldl (fun w a=>a.rf p pos w) w)
 | [],w=>NearW.refl w
 | a :: l,w=>by
  rw [List.map_cons,List.sum_cons,List.foldl_cons]
  exact (nearW_ar p pos a w).trans (nearW_ars p pos l _)
theorem stmW_oX (p : List It) (hp : p.length ≤ 20000) (hx : ∀ x ∈ p,x.fields.length ≤ 20000) (s : St) (d : Int) (hwh : s.whole d = true) (i1 : ∀ x ∈ s.body,StmW p x) (i2 : ∀ x ∈ s.els,StmW p x) (i3 : ∀ a ∈ s.arms,∀ x ∈ a.body,StmW p x) (o1 : ¬ s.op = 1) (o2 : ¬ s.op = 2) (o12 : ¬ s.op = 12) (o9 : ¬ s.op = 9) (o11 : ¬ s.op = 11) (o10 : ¬ s.op = 10) : StmW p s:=by
 intro w hb S c h
 have hex:=stWhole_exprs hwh
 have hal : s.arms.length ≤ 20000:=by
  have h9:=hwh
  rw [stWhole_eq] at h9
  simp only [Bool.and_eq_true] at h9
  have:=h9.2.2.2.2.2.2.2.2
  unfold allUp at this
  simp only [Bool.and_eq_true,decide_eq_true_eq] at this
  omega
 refine ADet.okA Tryz.call66 1 10 rfl rfl fun hok=>?_
 have hlen:=okl hok
 have hs:=updW_self h
 have hndS:=stNd s
 obtain ⟨F,hF⟩ : ∃ F : Nat → Wf,F = fun q=>w.add ((s.exprs.take q).flatMap (Ex.rf p w.vars)):=⟨_,rfl⟩
 have hF0 : F 0 = w:=by rw [hF]; simp [Wf.add_nil]
 obtain ⟨w1,hw1⟩ : ∃ w1,w1 = w.add (s.exprs.flatMap (Ex.rf p w.vars)):=⟨_,rfl⟩
 have hFn : F s.exprs.length = w1:=by rw [hF,hw1]; simp
 have hFv : ∀ q,(F q).vars = w.vars:=fun q=>by rw [hF]; rfl
 have hFs : ∀ q (hq : q < s.exprs.length),F (q + 1) = (F q).add (s.exprs[q].rf p (F q).vars):=fun q hq=>by
  rw [hF]
  simp only [List.take_succ_eq_append_getElem hq,List.flatMap_append,Wf.add_add]
  simp [Wf.add]
 have hFb : ∀ q (hq : q < s.exprs.length),(F q).fl.length + s.exprs[q].nd ≤ 4000000000:=fun q hq=>by
  have e1:=sum_mem Ex.nd hq
  have e2:=exsRf_len p w.vars (s.exprs.take q)
  have:=hb.1
  rw [hF]
  simp only [Wf.add,List.length_append]
  omega
 have hwv : w.vars.length ≤ 4294967295:=by have:=hb.2.1; omega
 have hb1 : BdW w1 (s.nd - (s.exprs.map Ex.nd).sum):=by
  rw [hw1]
  exact hb.near (NearW.add w (exsRf_len p w.vars s.exprs)) (by omega)
 have hv1 : w1.vars = w.vars:=by rw [hw1]; rfl
 clear hF
 obtain ⟨u,hu⟩ : ∃ u,u = s.rf0 p w:=⟨_,rfl⟩
 have hbu : BdW u (s.nd - (s.exprs.map Ex.nd).sum - 1):=by rw [hu]; exact hb.near (nearW_0 p s w) (by omega)
 have hit:=fun L=>itselfW p hp s hx hal w1 (by rw [hv1]; exact hwv) (L :: updW p S c w1) c.up ((h.updW w1).cons L)
 simp only [Wg.up] at hit
 have hwr:=fun L=>((wrongQ p 60 s.pos w1.fl (by have:=hb1.1; omega)).inW (w:=w1)).at h L
 obtain ⟨b,hbv⟩ : ∃ b,b = itselfR p w1 s.op s.name s.second s.names.length s.place (s.arms.map armF):=⟨_,rfl⟩
 have hu0 : u = w1.add (wrongL b 60 s.pos):=by
  have e : itselfR p w1 s.op s.name s.second s.names.length s.place (s.arms.map armF) = itselfR p w s.op s.name s.second s.names.length s.place (s.arms.map armF):=by rw [hw1]; rfl
  rw [hu,hbv,e,hw1]
  unfold St.rf0
  rw [if_neg (by omega)]
 rw [← hbv] at hit
 obtain ⟨v1,hv1'⟩ : ∃ v,v = blockR p s.body u:=⟨_,rfl⟩
 obtain ⟨v2,hv2'⟩ : ∃ v,v = blockR p s.els v1:=⟨_,rfl⟩
 obtain ⟨G,hG⟩ : ∃ G : Nat → Wf,G = fun q=>(s.arms.take q).foldl (fun w a=>a.rf p s.pos w) v2:=⟨_,rfl⟩
 have hrf : s.rf p w = G s.arms.length:=by rw [stRf,if_neg o1,if_neg o2,if_neg o12,if_neg o9,if_neg o11,if_neg o10,hG,hv2',hv1',hu]; simp
 have hn1:=nearW_block p (l:=s.body) (fun s _ w=>nearW_st p s w) u
 have hn2:=nearW_block p (l:=s.els) (fun s _ w=>nearW_st p s w) v1
 rw [← hv1'] at hn1
 rw [← hv2'] at hn2
 have hbd1 : BdW v1 ((s.els.map St.nd).sum + (s.arms.map Ar.nd).sum):=hbu.near hn1 (by omega)
 have hbd2 : BdW v2 (s.arms.map Ar.nd).sum:=hbd1.near hn2 (by omega)
 have hG0 : G 0 = v2:=by rw [hG]; rfl
 have hGs : ∀ q (hq : q < s.arms.length),G (q + 1) = s.arms[q].rf p s.pos (G q):=fun q hq=>by
  rw [hG]
  simp only [List.take_succ_eq_append_getElem hq,List.foldl_append,List.foldl_cons,List.foldl_nil]
 have hGb : ∀ q (hq : q < s.arms.length),BdW (G q) s.arms[q].nd:=fun q hq=>by
  have e1:=sum_mem Ar.nd hq
  have e2:=nearW_ars p s.pos (s.arms.take q) v2
  rw [hG]
  exact hbd2.near e2 (by omega)
 rw [hrf]
 clear hG
 have hst1:=fun L=>(stmtsW p s.body i1 u (hbu.near (NearW.refl u) (by omega))).at h L
 rw [← hv1'] at hst1
 have hst2:=fun L=>(stmtsW p s.els i2 v1 (hbd1.near (NearW.refl v1) (by omega))).at h L
 rw [← hv2'] at hst2
 have hml : s.arms.length ≤ maxLen:=by unfold maxLen; omega
 have hGo:=fun q=>(h.updW (G q)).q.w
 simp only [wkC,Wg.q] at hGo
 have e1 : (s.op == 1) = false:=by simpa using o1
 have e2 : (s.op == 2) = false:=by simpa using o2
 have e12 : (s.op == 12) = false:=by simpa using o12
 have e9 : (s.op == 9) = false:=by simpa using o9
 have e11 : (s.op == 11) = false:=by simpa using o11
 have e10 : (s.op == 10) = false:=by simpa using o10
 refine ADet.intro mixed Tryz.call66 Tryz.func66 rfl ?_
 simp [Tryz.ntmps66]
 refine awp_loop (fun q : Nat=>q ≤ s.exprs.length) (fun q=>([.ptr (c.d + 1) c.jW 0,.any,.any,.ptr 0 0 0,I q] ++ List.replicate 174 .any)) (fun q=>[.cells (stV s) 60] :: updW p S c (F q)) (fun q=>s.exprs.length - q) 0 (Nat.zero_le _) ?_ ?_ ?_
 ·simp
 ·simp [hF0,hs]
 intro q hq
 by_cases hlt : q < s.exprs.length
 ·have hlt' : (q : Int) < (s.exprs.length : Int):=by omega
  have hw2:=wrap_succ hlt
  have hF1:=hFs q hlt
  have hmu : s.exprs.length - (q + 1) < s.exprs.length - q:=by omega
  have hxe:=fun L=>(exprW p hp s.exprs[q] _ (F q) (hex _ (List.getElem_mem hlt)) (by rw [hFv]; exact hwv) (hFb q hlt)).at h L
  rw [← hF1] at hxe
  generalize he : s.exprs[q] = e at *
  simp [hlt,hlt',he,exEnc]
  refine ⟨_,_,hxe _,?_⟩
  simp
  exact ⟨q + 1,hlt,hmu,hw2,rfl⟩
 have hlt' : ¬ (q : Int) < (s.exprs.length : Int):=by omega
 have hq2 : q = s.exprs.length:=by omega
 subst hq2
 rw [hFn]
 simp
 refine ⟨_,_,hit _,?_⟩
 cases b with
 | true =>
  have hu1 : w1 = u:=by rw [hu0]; simp [wrongL,Wf.add_nil]
  rw [hu1]
  simp [o1,o2,o12,o9,o11,o10,e1,e2,e12,e9,e11,e10]
  refine ⟨_,_,hst1 _,?_⟩
  simp
  refine ⟨_,_,hst2 _,?_⟩
  simp
  refine awp_loop (fun q : Nat=>q ≤ s.arms.length) (fun q=>([.ptr (c.d + 1) c.jW 0,.any,.any,.ptr 0 0 0,.any,.any,.any,I q] ++ List.replicate 171 .any)) (fun q=>[.cells (stV s) 60] :: updW p S c (G q)) (fun q=>s.arms.length - q) 0 (Nat.zero_le _) ?_ ?_ ?_
  ·simp
  ·simp [hG0]
  intro q hq
  by_cases hln : q < s.arms.length
  ·have hln' : (q : Int) < (s.arms.length : Int):=by omega
   have hw3:=wrap_succ hln hml
   have hG1:=hGs q hln
   have hmu3 : s.arms.length - (q + 1) < s.arms.length - q:=by omega
   have hbq:=hGb q hln
   have hia:=i3 _ (List.getElem_mem hln)
   have hgo:=hGo q
   have hna:=arNd s.arms[q]
   generalize he : s.arms[q] = a at *
   cases hs : sEq a.name emS with
   | true =>
    have ho1 : oneN a.name = []:=by unfold oneN; rw [hs]; rfl
    have hG2 : G (q + 1) = (blockR p a.body (G q)).forget (G q).vars.length:=by rw [hG1]; unfold Ar.rf; rw [ho1]; rfl
    have hsa:=fun L=>(stmtsW p a.body hia (G q) (hbq.near (NearW.refl _) (by omega))).at h L
    have hnb:=nearW_block p (l:=a.body) (fun s _ w=>nearW_st p s w) (G q)
    have hfo:=fun L=>(forgetW p (G q).vars.length (blockR p a.body (G q)) hnb.2.2.1 (by have:=hnb.2.2.2.1; have:=hbq.2.1; omega)).at h L
    rw [← hG2] at hfo
    simp [hln,hln',he,Ar.enc,hs,hgo]
    refine ⟨_,_,hsa _,?_⟩
    simp
    refine ⟨_,_,hfo _,?_⟩
    simp
    exact ⟨q + 1,hln,hmu3,hw3,rfl⟩
   | false =>
    have ho1 : oneN a.name = [a.name]:=by unfold oneN; rw [hs]; rfl
    have hG2 : G (q + 1) = (blockR p a.body ((G q).mk1 a.name s.pos)).forget (G q).vars.length:=by rw [hG1]; unfold Ar.rf; rw [ho1]; rfl
    have hmk:=fun L=>(makeW p a.name s.pos (G q) (by have:=hbq.2.1; omega) (by have:=hbq.1; omega)).at h L
    have hnm:=nearW_mk1 a.name s.pos (G q)
    have hbm : BdW ((G q).mk1 a.name s.pos) (a.body.map St.nd).sum:=hbq.near hnm (by omega)
    have hsa:=fun L=>(stmtsW p a.body hia _ hbm).at h L
    have hnb:=nearW_block p (l:=a.body) (fun s _ w=>nearW_st p s w) ((G q).mk1 a.name s.pos)
    have hfo:=fun L=>(forgetW p (G q).vars.length (blockR p a.body ((G q).mk1 a.name s.pos)) (by have:=hnb.2.2.1; have:=hnm.2.2.1; omega) (by have:=hnb.2.2.2.1; have:=hbm.2.1; omega)).at h L
    rw [← hG2] at hfo
    simp [hln,hln',he,Ar.enc,hs,hgo]
    refine awp_draw [] (by kernel_rfl) (by kernel_rfl) ?_
    simp [hln,he,Ar.enc]
    refine ⟨_,_,hmk _,?_⟩
    simp [hln,he,Ar.enc]
    refine ⟨_,_,hsa _,?_⟩
    simp
    refine ⟨_,_,hfo _,?_⟩
    simp
    exact ⟨q + 1,hln,hmu3,hw3,rfl⟩
  ·have hln' : ¬ (q : Int) < (s.arms.length : Int):=by omega
   have hq3 : q = s.arms.length:=by omega
   subst hq3
   simp
 | false =>
  have hu1 : (⟨w1.vars,w1.opn,w1.fl ++ [(60,s.pos)]⟩ : Wf) = u:=by rw [hu0]; rfl
  rw [hu1] at hwr
  simp [o1,o2,o12,o9,o11,o10,e1,e2,e12,e9,e11,e10]
  refine ⟨_,_,hwr _,?_⟩
  simp [o1,o2,o12,o9,o11,o10,e1,e2,e12,e9,e11,e10]
  refine ⟨_,_,hst1 _,?_⟩
  simp
  refine ⟨_,_,hst2 _,?_⟩
  simp
  refine awp_loop (fun q : Nat=>q ≤ s.arms.length) (fun q=>([.ptr (c.d + 1) c.jW 0,.any,.any,.ptr 0 0 0,.any,.any,.any,I q] ++ List.replicate 171 .any)) (fun q=>[.cells (stV s) 60] :: updW p S c (G q)) (fun q=>s.arms.length - q) 0 (Nat.zero_le _) ?_ ?_ ?_
  ·simp
  ·simp [hG0]
  intro q hq
  by_cases hln : q < s.arms.length
  ·have hln' : (q : Int) < (s.arms.length : Int):=by omega
   have hw3:=wrap_succ hln hml
   have hG1:=hGs q hln
   have hmu3 : s.arms.length - (q + 1) < s.arms.length - q:=by omega
   have hbq:=hGb q hln
   have hia:=i3 _ (List.getElem_mem hln)
   have hgo:=hGo q
   have hna:=arNd s.arms[q]
   generalize he : s.arms[q] = a at *
   cases hs : sEq a.name emS with
   | true =>
    have ho1 : oneN a.name = []:=by unfold oneN; rw [hs]; rfl
    have hG2 : G (q + 1) = (blockR p a.body (G q)).forget (G q).vars.length:=by rw [hG1]; unfold Ar.rf; rw [ho1]; rfl
    have hsa:=fun L=>(stmtsW p a.body hia (G q) (hbq.near (NearW.refl _) (by omega))).at h L
    have hnb:=nearW_block p (l:=a.body) (fun s _ w=>nearW_st p s w) (G q)
    have hfo:=fun L=>(forgetW p (G q).vars.length (blockR p a.body (G q)) hnb.2.2.1 (by have:=hnb.2.2.2.1; have:=hbq.2.1; omega)).at h L
    rw [← hG2] at hfo
    simp [hln,hln',he,Ar.enc,hs,hgo]
    refine ⟨_,_,hsa _,?_⟩
    simp
    refine ⟨_,_,hfo _,?_⟩
    simp
    exact ⟨q + 1,hln,hmu3,hw3,rfl⟩
   | false =>
    have ho1 : oneN a.name = [a.name]:=by unfold oneN; rw [hs]; rfl
    have hG2 : G (q + 1) = (blockR p a.body ((G q).mk1 a.name s.pos)).forget (G q).vars.length:=by rw [hG1]; unfold Ar.rf; rw [ho1]; rfl
    have hmk:=fun L=>(makeW p a.name s.pos (G q) (by have:=hbq.2.1; omega) (by have:=hbq.1; omega)).at h L
    have hnm:=nearW_mk1 a.name s.pos (G q)
    have hbm : BdW ((G q).mk1 a.name s.pos) (a.body.map St.nd).sum:=hbq.near hnm (by omega)
    have hsa:=fun L=>(stmtsW p a.body hia _ hbm).at h L
    have hnb:=nearW_block p (l:=a.body) (fun s _ w=>nearW_st p s w) ((G q).mk1 a.name s.pos)
    have hfo:=fun L=>(forgetW p (G q).vars.length (blockR p a.body ((G q).mk1 a.name s.pos)) (by have:=hnb.2.2.1; have:=hnm.2.2.1; omega) (by have:=hnb.2.2.2.1; have:=hbm.2.1; omega)).at h L
    rw [← hG2] at hfo
    simp [hln,hln',he,Ar.enc,hs,hgo]
    refine awp_draw [] (by kernel_rfl) (by kernel_rfl) ?_
    simp [hln,he,Ar.enc]
    refine ⟨_,_,hmk _,?_⟩
    simp [hln,he,Ar.enc]
    refine ⟨_,_,hsa _,?_⟩
    simp
    refine ⟨_,_,hfo _,?_⟩
    simp
    exact ⟨q + 1,hln,hmu3,hw3,rfl⟩
  ·have hln' : ¬ (q : Int) < (s.arms.length : Int):=by omega
   have hq3 : q = s.arms.length:=by omega
   subst hq3
   simp
end Go.Proofs.YtfbpibkpmcceaaaGreatDoor
