/- A part of the proof. The statement is proved in the claim's last text. -/
import Derived.Test.YtfbpibkpmcceaaaGreatDoorZNQd
import Derived.Test.YtfbpibkpmcceaaaGreatDoorZNQe
import Derived.Test.YtfbpibkpmcceaaaGreatDoorZMLe
import Derived.Test.YtfbpibkpmcceaaaGreatDoorZMLb
set_option linter.unusedVariables false
set_option linter.unusedSimpArgs false
set_option maxRecDepth 100000
set_option maxHeartbeats 32000000
namespace Go.Proofs.YtfbpibkpmcceaaaGreatDoor
open Go.RowKit
attribute [local simp] List.replicate List.range List.range.loop resA resOne retA AV.cuts AV.cut AObj.cut trim wkR wkT wkL wkN wkNR wkNL wkM wkMR wkML virtL virtO virt_get markL markO markR_get rowA awpI_nil awpI_cons List.forall_mem_cons List.contains_cons List.contains_nil List.find? nextD_eq awpD_nil awpD_cons LCp LCl refL
theorem stmtW (p : List It) (hp : p.length ≤ 20000) (hx : ∀ x ∈ p,x.fields.length ≤ 20000) (s : St) : ∀ d : Int,s.whole d = true → StmW p s:=by
 refine St.ind (p:=fun s=>∀ d : Int,s.whole d = true → StmW p s) ?_ s
 intro s b1 b2 b3 d h
 obtain ⟨w1,w2,w3⟩:=stWhole_lists h
 have i1 : ∀ x ∈ s.body,StmW p x:=fun x hx=>b1 x hx _ (w1 x hx)
 have i2 : ∀ x ∈ s.els,StmW p x:=fun x hx=>b2 x hx _ (w2 x hx)
 have i3 : ∀ a ∈ s.arms,∀ x ∈ a.body,StmW p x:=fun a ha x hx=>b3 a ha x hx _ (w3 a ha x hx)
 by_cases o1 : s.op = 1
 ·exact stmW_o1 p hp hx s d h i1 i2 i3 o1
 by_cases o2 : s.op = 2
 ·exact stmW_o2 p hp hx s d h i1 i2 i3 o2
 by_cases o12 : s.op = 12
 ·exact stmW_o12 p hp hx s d h i1 i2 i3 o12
 by_cases o9 : s.op = 9
 ·exact stmW_o9 p hp hx s d h i1 i2 i3 o9
 by_cases o11 : s.op = 11
 ·exact stmW_o11 p hp hx s d h i1 i2 i3 o11
 by_cases o10 : s.op = 10
 ·exact stmW_o10 p hp hx s d h i1 i2 i3 o10
 exact stmW_oX p hp hx s d h i1 i2 i3 o1 o2 o12 o9 o11 o10
def hasF (l : List Fi) (s : ByteArray) : Bool:=l.any fun f=>sEq f.name s
theorem hasF_map (l : List Fi) (s : ByteArray) : ((l.map Fi.name).any fun x=>sEq x s) = hasF l s:=by
 unfold hasF
 rw [List.any_map]
 rfl
theorem hasF_succ (l : List Fi) (s : ByteArray) {q : Nat} (h : q < l.length) : hasF (l.take (q + 1)) s = (hasF (l.take q) s || sEq l[q].name s):=by
 unfold hasF
 rw [List.take_succ_eq_append_getElem h,List.any_append]
 simp
theorem fieldsQ (p : List It) (hp : p.length ≤ 20000) (x : It) (l : List Flt) (hl : l.length + (x.fields.map Fi.nd).sum ≤ 4000000000) (hx : x.fields.length ≤ 20000) : QC p 64 [itV x] l (l ++ fieldsR p x.pos [] x.fields):=fun S g h=>by
 have hlen : x.fields.length ≤ maxLen:=by unfold maxLen; omega
 have hself:=updQ_self h
 obtain ⟨F,hF⟩ : ∃ F : Nat → List Flt,F = fun q=>l ++ fieldsR p x.pos [] (x.fields.take q):=⟨_,rfl⟩
 have hF0 : F 0 = l:=by rw [hF]; simp [fieldsR]
 have hFn : F x.fields.length = l ++ fieldsR p x.pos [] x.fields:=by rw [hF]; simp
 have hFs : ∀ q (hq : q < x.fields.length),F (q + 1) = (F q ++ wrongL (!hasF (x.fields.take q) x.fields[q].name) 60 x.pos) ++ x.fields[q].type.nm p x.pos:=fun q hq=>by
  rw [hF]
  simp only [List.take_succ_eq_append_getElem hq,fieldsR_app,← hasF_map]
  simp [fieldsR]
 have hFb : ∀ q (hq : q < x.fields.length),(F q).length + (1 + x.fields[q].type.nd) ≤ 4000000000:=fun q hq=>by
  have e1:=sum_mem Fi.nd hq
  have e2:=fieldsR_len p x.pos (x.fields.take q) []
  rw [hF]
  simp only [List.length_append]
  unfold Fi.nd at *
  omega
 clear hF
 rw [← hFn]
 refine ADet.intro mixed Tryz.call64 Tryz.func64 rfl ?_
 simp [Tryz.ntmps64]
 refine awp_loop (fun q : Nat=>q ≤ x.fields.length) (fun q=>([.ptr (g.d + 1) g.jW 0,.any,.any,.ptr 0 0 0,I q] ++ List.replicate 40 .any)) (fun q=>[.cells (itU x) 47] :: updQ p S g (F q)) (fun q=>x.fields.length - q) 0 (Nat.zero_le _) ?_ ?_ ?_
 ·simp
 ·simp [hF0,hself]
 intro q hq
 by_cases hlt : q < x.fields.length
 ·have hlt' : (q : Int) < (x.fields.length : Int):=by omega
  have hw:=wrap_succ hlt hlen
  have hmu : x.fields.length - (q + 1) < x.fields.length - q:=by omega
  have hF1:=hFs q hlt
  have hFq:=hFb q hlt
  have hwr:=fun L=>(wrongQ p 60 x.pos (F q) (by omega)).at h L
  have hkd:=fun b L=>(kindQ p hp x.pos x.fields[q].type (F q ++ wrongL b 60 x.pos) (by have:=wrongN_len b 60 x.pos; simp only [List.length_append]; omega)).at h L
  generalize hf : x.fields[q] = f at *
  simp [hlt,hlt']
  refine awp_loop (fun k : Nat=>k ≤ q ∧ hasF (x.fields.take k) f.name = false) (fun k=>([.ptr (g.d + 1) g.jW 0,.any,.any,.ptr 0 0 0,I q,I k] ++ List.replicate 39 .any)) (fun k=>[.cells (itU x) 47] :: updQ p S g (F q)) (fun k=>q - k) 0 ⟨Nat.zero_le _,rfl⟩ ?_ ?_ ?_
  ·simp
  ·simp
  rintro k ⟨hkq,hnk⟩
  by_cases hlk : k < q
  ·have hlk' : (k : Int) < (q : Int):=by omega
   have hlk2 : k < x.fields.length:=by omega
   have hw3:=wrap_succ hlk (by omega)
   have hmu3 : q - (k + 1) < q - k:=by omega
   have hsc:=hasF_succ x.fields f.name hlk2
   rw [hnk,Bool.false_or] at hsc
   have hyes : sEq x.fields[k].name f.name = true → hasF (x.fields.take q) f.name = true:=fun h0=>by
    unfold hasF
    refine List.any_eq_true.2 ⟨x.fields[k],List.mem_take_iff_getElem.2 ⟨k,by omega,rfl⟩,h0⟩
   generalize hb : x.fields[k] = b at *
   cases hv : sEq b.name f.name with
   | true =>
    have hh:=hyes hv
    rw [hh] at hF1
    have hk1:=hkd false
    have e1 : F q ++ wrongL false 60 x.pos = F q ++ [(60,x.pos)]:=rfl
    have e2 : (F q ++ wrongL false 60 x.pos) ++ f.type.nm p x.pos = F (q + 1):=by rw [hF1]; rfl
    rw [e2,e1] at hk1
    simp [hlk,hlk']
    refine awp_draw [] (by kernel_rfl) (by kernel_rfl) ?_
    simp [hlt,hlk2,hf,hb,Fi.enc,hv]
    refine ⟨_,_,hwr _,?_⟩
    simp
    refine awp_draw [] (by kernel_rfl) (by kernel_rfl) ?_
    simp [hlt,hf,Fi.enc]
    refine ⟨_,_,hk1 _,?_⟩
    simp
    exact ⟨q + 1,hlt,hmu,hw,rfl⟩
   | false =>
    simp [hlk,hlk']
    refine awp_draw [] (by kernel_rfl) (by kernel_rfl) ?_
    simp [hlt,hlk2,hf,hb,Fi.enc,hv]
    exact ⟨k + 1,⟨hlk,by rw [hsc,hv]⟩,hmu3,hw3⟩
  ·have hlk' : ¬ (k : Int) < (q : Int):=by omega
   have hkq2 : k = q:=by omega
   subst hkq2
   rw [hnk] at hF1
   have hk1:=hkd true
   have e1 : F k ++ wrongL true 60 x.pos = F k:=by simp [wrongL]
   have e2 : (F k ++ wrongL true 60 x.pos) ++ f.type.nm p x.pos = F (k + 1):=by rw [hF1]; rfl
   rw [e2,e1] at hk1
   simp [hlk']
   refine awp_draw [] (by kernel_rfl) (by kernel_rfl) ?_
   simp [hlt,hf,Fi.enc]
   refine ⟨_,_,hk1 _,?_⟩
   simp
   exact ⟨k + 1,hlt,hmu,hw,rfl⟩
 ·have hlt' : ¬ (q : Int) < (x.fields.length : Int):=by omega
  have hq2 : q = x.fields.length:=by omega
  subst hq2
  simp
end Go.Proofs.YtfbpibkpmcceaaaGreatDoor
namespace Go.Proofs.YtfbpibkpmcceaaaGreatDoor
open Go.RowKit
theorem ADet.ghostR {P : Program} {K : FuncId} {args : List AV} {L : List AObj} {R : ASt} {r : AV} {S' : ASt} (E : TypeId) (k : Nat) (hk : 0 < k) (h : ADet P K args ((L ++ [.row E k 0 []]) :: R) r S') : ADet P K args (L :: R) r S' :=
 ⟨h.1,fun Pr φ xs w hargs hR hne=>by
  obtain ⟨φ',s,r',h0⟩:=rel_ghostR hR hne E k hk
  have hne' : φ' ≠ []:=fun e=>hne (by have:=s.len; rw [e] at this; exact List.eq_nil_of_length_eq_zero this.symm)
  refine (h.2 Pr φ' xs w ⟨hargs.1,fun j c x hc hx=>(hargs.2 j c x hc hx).mono s.pl s.fl⟩ r' hne').mono fun e w' hp=>?_
  obtain ⟨x,Pr',φ'',h1,h2,h3,h4⟩:=hp
  exact ⟨x,Pr',φ'',h1,s.trans h2,h3,h4⟩⟩
theorem Leads.nilAt {fr : List AV} {S : ASt} {d i j m k : Nat} {E t : TypeId} {cs : List AV} (hi : get2 S d i = some (.cells cs t)) (hm : cs[m]? = some (.p (.v (.slice none 0 0)))) (hj : get2 S d j = some (.row E k 0 [])) : Leads fr S fr (set2 S d i (.cells (cs.set m (.rsl 0 j 0 k)) t)):=fun Pr φ a w hf hR hne=>by
 refine ⟨φ,Stp.refl _ _ _,hf,⟨fun d' i' o ho=>?_,hR.dis,hR.lt,hR.pr,hR.tb,?_⟩,Nat.le_refl _⟩
 ·rw [get2_set _ hi] at ho
  split at ho
  ·rename_i hc
   cases ho
   obtain ⟨rfl,rfl⟩:=hc
   obtain ⟨e,he,g1,g,xs,g2,g3,g4,g5,g6⟩:=hR.obj d' i' _ hi
   refine ⟨e,he,g1,g,xs,g2,g3,by rw [List.length_set]; exact g4,fun n c x hc hx=>?_,g6⟩
   rw [List.getElem?_set] at hc
   split at hc
   ·rename_i hmn
    subst hmn
    split at hc
    ·cases hc
     have hx0:=g5 m _ x hm hx
     cases hx0 with
     | p hx1 =>
      cases hx1 with
      | v hx2 =>
       obtain ⟨e2,k1,k2,k3,k4,k5,k6,k7⟩:=hR.obj d' j _ hj
       subst k4
       refine .rnil (e:=e2) ?_ k2 (fun _=>?_)
       ·unfold get2 at k1 ⊢
        rw [List.getElem?_drop,Nat.add_zero]
        exact k1
       ·rcases k7 with ⟨_,k8⟩ | ⟨_,_,_,_,_,k8,_⟩
        ·exact k8
        ·omega
    ·cases hc
   ·exact g5 n c x hc hx
  ·exact hR.obj d' i' o ho
 ·rw [set_map]; exact hR.shape
end Go.Proofs.YtfbpibkpmcceaaaGreatDoor
namespace Go.Proofs.YtfbpibkpmcceaaaGreatDoor
open Go.RowKit
attribute [local simp] List.replicate List.range List.range.loop resA resOne retA AV.cuts AV.cut AObj.cut trim wkR wkT wkL wkN wkNR wkNL wkM wkMR wkML virtL virtO virt_get markL markO markR_get rowA awpI_nil awpI_cons List.forall_mem_cons List.contains_cons List.contains_nil List.find? nextD_eq awpD_nil awpD_cons LCp LCl refL
def levI (p : List It) (fl : List Flt) (v o : AV) (row : AObj) : List AObj:=[.cells [.p (.sl 16 (p.map It.enc))] 24,wkC p ⟨0,0,1,v,o⟩ fl.length,rwO fl,row]
theorem levIAt (p : List It) (fl : List Flt) (v o : AV) (row : AObj) (R : ASt) : QAt p (levI p fl v o row :: R) ⟨0,0,1,v,o⟩ fl:=⟨rfl,rfl,fun _=>by simp⟩
theorem levIUpd (p : List It) (fl fl' : List Flt) (v o : AV) (row : AObj) (R : ASt) : updQ p (levI p fl v o row :: R) ⟨0,0,1,v,o⟩ fl' = levI p fl' v o row :: R:=rfl
theorem QC.levI {p : List It} {F : Nat} {args : List AV} {l l' : List Flt} (h : QC p F args l l') (v o : AV) (row : AObj) (R : ASt) (L : List AObj) : ADet Tryz.prog F (.ptr 1 1 0 :: args) (L :: levI p l v o row :: R) .un (L :: levI p l' v o row :: R):=by
 have:=h.at0 (levIAt p l v o row R) L
 rw [levIUpd] at this
 exact this
def levW (p : List It) (w : Wf) : List AObj:=levI p w.fl (.rsl 0 3 w.vars.length 2) (I w.opn) (rvO w.vars)
def cM : Wg:=⟨0,0,1,3⟩
theorem levWAt (p : List It) (w : Wf) (R : ASt) : WAt p (levW p w :: R) cM w:=⟨⟨rfl,rfl,fun _=>by unfold Wg.q cM; simp⟩,rfl,by unfold cM; simp,fun _=>by unfold cM; simp⟩
theorem levWUpd (p : List It) (w u : Wf) (R : ASt) : updW p (levW p w :: R) cM u = levW p u :: R:=rfl
theorem WC.levW {p : List It} {F : Nat} {args : List AV} {w u : Wf} (h : WC p F args w u) (R : ASt) (L : List AObj) : ADet Tryz.prog F (.ptr 1 1 0 :: args) (L :: levW p w :: R) .un (L :: levW p u :: R):=by
 have:=h.at0 (levWAt p w R) L
 rw [levWUpd] at this
 exact this
theorem awp_loopL {P : Program} {fr : List AV} {S : ASt} {Q : Exit → List AV → ASt → Prop} {body : Code} {α : Type} (I : α → Prop) (F : α → List AV) (G : α → ASt) (μ : α → Nat) (a0 : α) (h0 : I a0) (hL : Leads fr S (F a0) (G a0)) (h : ∀ a,I a → awp P body (F a) (G a) (LoopQ I F G μ (μ a) (top (G a0)) Q)) : awp P (.loop body) fr S Q:=⟨α,I,F,G,μ,a0,fun _=>top (G a0),h0,hL,fun _ _=>Nat.le_refl _,h⟩
theorem fieldVars (x : It) (q : Nat) (h : q < x.fields.length) : (x.fields.take (q + 1)).map (fun f=>(f.name,true)) = (x.fields.take q).map (fun f=>((f.name,true) : Fg)) ++ [(x.fields[q].name,true)]:=by
 rw [List.take_succ_eq_append_getElem h,List.map_append]; rfl
theorem itemW (p : List It) (hp : p.length ≤ 20000) (hx : ∀ x ∈ p,x.fields.length ≤ 20000) (q : Nat) (hq : q < p.length) (hw : p[q].whole 39 = true) (fl : List Flt) (hl : fl.length + p[q].nd ≤ 20000) (R : ASt) :
  ADet Tryz.prog 35 [.ptr 0 1 0,I q] (levI p fl .any .any (.row 117 2 0 []) :: R) .un (levI p (itemR p q p[q] fl) .any .any .dead :: R):=by
 have hxf:=hx _ (List.getElem_mem hq)
 have hfc:=fun fn s S=>findC p hp fn s S
 have hq' : (q : Int) < (p.length : Int):=by omega
 generalize hxe : p[q] = x at *
 have hndx : x.nd = 3 + ((x.fields.map Fi.nd).sum + (x.result.nd + ((x.body.map St.nd).sum + x.ret.nd))):=rfl
 obtain ⟨bb,hbb⟩ : ∃ bb,bb = decide (findIx p (decide (x.kind = 3)) x.name = some q):=⟨_,rfl⟩
 obtain ⟨f1,hf1⟩ : ∃ f,f = fl ++ wrongL bb 60 x.pos:=⟨_,rfl⟩
 have h1l:=wrongN_len bb 60 x.pos
 have hf1l : f1.length ≤ fl.length + 1:=by rw [hf1,List.length_append]; omega
 have hwr:=fun v o row R L=>(wrongQ p 60 x.pos fl (by omega)).levI v o row R L
 have hfi:=fun v o row R L=>(fieldsQ p hp x f1 (by omega) hxf).levI v o row R L
 have h2l:=fieldsR_len p x.pos x.fields []
 obtain ⟨f2,hf2⟩ : ∃ f,f = f1 ++ fieldsR p x.pos [] x.fields:=⟨_,rfl⟩
 rw [← hf2] at hfi
 have hf2l : f2.length ≤ f1.length + (x.fields.map Fi.nd).sum:=by rw [hf2,List.length_append]; omega
 have hix : ((ixV (findIx p (decide (x.kind = 3)) x.name)) != (q : Int)) = !bb:=by
  rw [hbb,Bool.eq_iff_iff]
  cases findIx p (decide (x.kind = 3)) x.name with
  | none =>
   simp [ixV]
   try omega
  | some j =>
   simp [ixV]
   try omega
 by_cases h3 : x.kind = 3
 ·have hd3 : decide (x.kind = 3) = true:=decide_eq_true h3
  rw [hd3] at hix
  have hfc:=hfc true x.name
  simp only [if_true] at hfc
  simp only [itV,itU,h3] at hfi
  have hkd:=fun v o row R L=>(kindQ p hp x.pos x.result f2 (by omega)).levI v o row R L
  obtain ⟨f3,hf3⟩ : ∃ f,f = f2 ++ x.result.nm p x.pos:=⟨_,rfl⟩
  have h3l:=tyNm_len p x.pos x.result
  rw [← hf3] at hkd
  have hf3l : f3.length ≤ f2.length + x.result.nd:=by rw [hf3,List.length_append]; omega
  have hxm : x.fields.length ≤ maxLen:=by unfold maxLen; omega
  obtain ⟨V,hV⟩ : ∃ V : Nat → Wf,V = fun k=>⟨(x.fields.take k).map (fun f=>(f.name,true)),0,f3⟩:=⟨_,rfl⟩
  have hVs : ∀ k (h : k < x.fields.length),(V (k + 1)).vars = (V k).vars ++ [(x.fields[k].name,true)]:=fun k h=>by rw [hV]; exact fieldVars x k h
  have hVl : ∀ k,k ≤ x.fields.length → (V k).vars.length = k:=fun k h=>by rw [hV]; simp; omega
  have hV0 : V 0 = ⟨[],0,f3⟩:=by rw [hV]; rfl
  have hVn : V x.fields.length = ⟨x.fields.map (fun f=>(f.name,true)),0,f3⟩:=by rw [hV]; simp
  have hVf : ∀ k,(V k).fl = f3:=fun k=>by rw [hV]
  have hVo : ∀ k,(V k).opn = 0:=fun k=>by rw [hV]
  have hfl' : x.fields.length ≤ (x.fields.map Fi.nd).sum:=by
   have key : ∀ l : List Fi,l.length ≤ (l.map Fi.nd).sum:=fun l=>by
    induction l with
    | nil=>simp
    | cons x l ih=>rw [List.length_cons,List.map_cons,List.sum_cons]; unfold Fi.nd; unfold Fi.nd at ih; omega
   exact key x.fields
  have hbV : BdW (V x.fields.length) ((x.body.map St.nd).sum + x.ret.nd + 1):=by
   rw [hVn]
   exact ⟨by simp only; omega,by simp only [List.length_map]; omega,by simp only; omega⟩
  clear hV
  have hxw:=hw
  unfold It.whole at hxw
  rw [if_neg (by omega),if_pos h3] at hxw
  simp only [Bool.and_eq_true] at hxw
  have hbw : ∀ s ∈ x.body,s.whole 38 = true:=fun s hs=>List.all_eq_true.1 hxw.2.2.2.2.2 s hs
  have hrw : x.ret.whole 38 = true:=hxw.2.2.2.2.1
  have hbl : x.body.length ≤ 20000:=by
   have key : ∀ l : List St,l.length ≤ (l.map St.nd).sum:=fun l=>by
    induction l with
    | nil=>simp
    | cons x l ih=>rw [List.length_cons,List.map_cons,List.sum_cons,stNd x]; omega
   have:=key x.body
   omega
  have hbm : x.body.length ≤ maxLen:=by unfold maxLen; omega
  obtain ⟨G,hG⟩ : ∃ G : Nat → Wf,G = fun j=>(x.body.take j).foldl (fun w s=>s.rf p w) (V x.fields.length):=⟨_,rfl⟩
  have hG0 : G 0 = V x.fields.length:=by rw [hG]; rfl
  have hGs : ∀ j (h : j < x.body.length),G (j + 1) = x.body[j].rf p (G j):=fun j h=>by
   rw [hG]
   simp only [List.take_succ_eq_append_getElem h,List.foldl_append,List.foldl_cons,List.foldl_nil]
  have hGb : ∀ j (h : j < x.body.length),BdW (G j) x.body[j].nd:=fun j h=>by
   have e1:=sum_mem St.nd h
   have e2:=nearW_list p (l:=x.body.take j) (fun s _ w=>nearW_st p s w) (V x.fields.length)
   rw [hG]
   exact hbV.near e2 (by omega)
  obtain ⟨g,hg⟩ : ∃ g,g = G x.body.length:=⟨_,rfl⟩
  have hgb : g = bodyR p x f3:=by rw [hg,hG,hVn]; simp only [List.take_length]; rfl
  have hbg : BdW g (x.ret.nd + 1):=by
   have e2:=nearW_list p (l:=x.body) (fun s _ w=>nearW_st p s w) (V x.fields.length)
   rw [hg,hG]
   simp only [List.take_length]
   exact hbV.near e2 (by omega)
  clear hG
  have hex:=fun R L=>(exprW p hp x.ret 38 g hrw (by have:=hbg.2.1; omega) (by have:=hbg.1; omega)).levW R L
  obtain ⟨g2,hg2⟩ : ∃ g2,g2 = g.add (x.ret.rf p g.vars):=⟨_,rfl⟩
  rw [← hg2] at hex
  have hg2v : g2.vars = g.vars:=by rw [hg2]; rfl
  have hg2l : g2.fl.length + 1 ≤ 4294967296:=by
   have:=exRf_len p g.vars x.ret
   have:=hbg.1
   rw [hg2]
   simp only [Wf.add,List.length_append]
   omega
  have hw4:=fun v o row R L=>(wrongQ p 4 x.pos g2.fl hg2l).levI v o row R L
  have hir : itemR p q x fl = g2.fl ++ wrongL (decide (g2.vars.length ≤ 60)) 4 x.pos:=by
   unfold itemR
   simp only
   rw [← hbb,if_pos h3,← hf1,← hf2,← hf3,← hgb,hg2v,hg2]
   rfl
  rw [hir]
  refine ADet.after (S':=levI p (g2.fl ++ wrongL (decide (g2.vars.length ≤ 60)) 4 x.pos) (.rsl 0 3 g2.vars.length 2) (I g2.opn) (rvO g2.vars) :: R) ⟨by
   simp [levI,wkC,wkL,wkR]
   exact ⟨⟨⟨rfl,rfl,rfl⟩,wkR_refl _⟩,trivial⟩,rfl⟩ ?_
  refine ADet.intro mixed Tryz.call35 Tryz.func35 rfl ?_
  simp [Tryz.ntmps35,levI,wkC,hq,hq',hxe,It.enc,h3]
  refine awp_draw [] (by kernel_rfl) (by kernel_rfl) ?_
  simp
  refine ⟨_,_,hfc _,?_⟩
  cases bb with
  | true =>
   have e : f1 = fl:=by rw [hf1]; simp [wrongL]
   subst e
   simp [hix]
   refine ⟨_,_,hfi .any .any (.row 117 2 0 []) _ _,?_⟩
   simp [levI,wkC,h3]
   refine ⟨_,_,hkd .any .any (.row 117 2 0 []) _ _,?_⟩
   simp [levI,wkC]
   refine awp_loopL (fun k : Nat=>k ≤ x.fields.length) (fun k=>([.ptr 1 1 0,.any,.any,.any,.ptr 0 0 0,.any,I k] ++ List.replicate 95 .any)) (fun k=>[.cells (itU x) 47] :: levW p (V k) :: R) (fun k=>x.fields.length - k) 0 (Nat.zero_le _) ?_ ?_
   ·refine Leads.trans (Leads.nilAt (d:=1) (i:=1) (j:=3) (m:=2) (k:=2) rfl rfl rfl) (Leads.wk ?_ ?_)
    ·simp
    ·rw [hV0,← h3]
     exact ⟨⟨⟨rfl,wkR_refl _⟩,trivial⟩,rfl⟩
   intro k hk
   by_cases hlk : k < x.fields.length
   ·have hlk' : (k : Int) < (x.fields.length : Int):=by omega
    have hw3:=wrap_succ hlk hxm
    have hmu3 : x.fields.length - (k + 1) < x.fields.length - k:=by omega
    have hV1:=hVs k hlk
    have hvk:=hVl k hk
    have hvk1:=hVl (k + 1) hlk
    have hle : k + 1 ≤ 4294967296:=by omega
    generalize hf : x.fields[k] = f at *
    simp [hlk,hlk',levW,levI,wkC,rvO,hvk,hVf,hVo]
    refine awp_draw [(4,12)] (by kernel_rfl) (by kernel_rfl) ?_
    simp [hlk,hf,Fi.enc,hle,hvk]
    exact ⟨k + 1,hlk,hmu3,hw3,hvk1.symm,by rw [hV1,rv_app]⟩
   ·have hlk' : ¬ (k : Int) < (x.fields.length : Int):=by omega
    have hk2 : k = x.fields.length:=by omega
    subst hk2
    simp [hlk']
    refine awp_loop (fun j : Nat=>j ≤ x.body.length) (fun j=>([.ptr 1 1 0,.any,.any,.any,.ptr 0 0 0,.any,.any,I j] ++ List.replicate 94 .any)) (fun j=>[.cells (itU x) 47] :: levW p (G j) :: R) (fun j=>x.body.length - j) 0 (Nat.zero_le _) ?_ ?_ ?_
    ·simp
    ·simp [hG0]
    intro j hj
    by_cases hlj : j < x.body.length
    ·have hlj' : (j : Int) < (x.body.length : Int):=by omega
     have hw5:=wrap_succ hlj hbm
     have hmu5 : x.body.length - (j + 1) < x.body.length - j:=by omega
     have hG1:=hGs j hlj
     have hst:=fun R L=>(stmtW p hp hx x.body[j] 38 (hbw _ (List.getElem_mem hlj)) (G j) (hGb j hlj)).levW R L
     rw [← hG1] at hst
     generalize hs : x.body[j] = s at *
     simp [hlj,hlj',hs,stEnc]
     refine ⟨_,_,hst _ _,?_⟩
     simp
     exact ⟨j + 1,hlj,hmu5,hw5,rfl⟩
    ·have hlj' : ¬ (j : Int) < (x.body.length : Int):=by omega
     have hj2 : j = x.body.length:=by omega
     subst hj2
     rw [← hg]
     simp [hlj']
     refine ⟨_,_,hex _ _,?_⟩
     by_cases h60 : g2.vars.length ≤ 60
     ·have h6 : ¬ (60 : Int) < (g2.vars.length : Int):=by omega
      have hwl : wrongL (decide (g2.vars.length ≤ 60)) 4 x.pos = []:=by rw [decide_eq_true h60]; simp [wrongL]
      simp [levW,levI,wkC,h6,hwl]
     ·have h6 : (60 : Int) < (g2.vars.length : Int):=by omega
      have hwl : wrongL (decide (g2.vars.length ≤ 60)) 4 x.pos = [(4,x.pos)]:=by rw [decide_eq_false h60]; rfl
      simp [levW,levI,wkC,h6,hwl]
      refine ⟨_,_,hw4 (.rsl 0 3 g2.vars.length 2) (I g2.opn) (rvO g2.vars) _ _,?_⟩
      simp [levI,wkC]
  | false =>
   have e : fl ++ [(60,x.pos)] = f1:=by rw [hf1]; rfl
   rw [e] at hwr
   simp [hix]
   refine ⟨_,_,hwr .any .any (.row 117 2 0 []) _ _,?_⟩
   simp [levI,wkC]
   refine ⟨_,_,hfi .any .any (.row 117 2 0 []) _ _,?_⟩
   simp [levI,wkC,h3]
   refine ⟨_,_,hkd .any .any (.row 117 2 0 []) _ _,?_⟩
   simp [levI,wkC]
   refine awp_loopL (fun k : Nat=>k ≤ x.fields.length) (fun k=>([.ptr 1 1 0,.any,.any,.any,.ptr 0 0 0,.any,I k] ++ List.replicate 95 .any)) (fun k=>[.cells (itU x) 47] :: levW p (V k) :: R) (fun k=>x.fields.length - k) 0 (Nat.zero_le _) ?_ ?_
   ·refine Leads.trans (Leads.nilAt (d:=1) (i:=1) (j:=3) (m:=2) (k:=2) rfl rfl rfl) (Leads.wk ?_ ?_)
    ·simp
    ·rw [hV0,← h3]
     exact ⟨⟨⟨rfl,wkR_refl _⟩,trivial⟩,rfl⟩
   intro k hk
   by_cases hlk : k < x.fields.length
   ·have hlk' : (k : Int) < (x.fields.length : Int):=by omega
    have hw3:=wrap_succ hlk hxm
    have hmu3 : x.fields.length - (k + 1) < x.fields.length - k:=by omega
    have hV1:=hVs k hlk
    have hvk:=hVl k hk
    have hvk1:=hVl (k + 1) hlk
    have hle : k + 1 ≤ 4294967296:=by omega
    generalize hf : x.fields[k] = f at *
    simp [hlk,hlk',levW,levI,wkC,rvO,hvk,hVf,hVo]
    refine awp_draw [(4,12)] (by kernel_rfl) (by kernel_rfl) ?_
    simp [hlk,hf,Fi.enc,hle,hvk]
    exact ⟨k + 1,hlk,hmu3,hw3,hvk1.symm,by rw [hV1,rv_app]⟩
   ·have hlk' : ¬ (k : Int) < (x.fields.length : Int):=by omega
    have hk2 : k = x.fields.length:=by omega
    subst hk2
    simp [hlk']
    refine awp_loop (fun j : Nat=>j ≤ x.body.length) (fun j=>([.ptr 1 1 0,.any,.any,.any,.ptr 0 0 0,.any,.any,I j] ++ List.replicate 94 .any)) (fun j=>[.cells (itU x) 47] :: levW p (G j) :: R) (fun j=>x.body.length - j) 0 (Nat.zero_le _) ?_ ?_ ?_
    ·simp
    ·simp [hG0]
    intro j hj
    by_cases hlj : j < x.body.length
    ·have hlj' : (j : Int) < (x.body.length : Int):=by omega
     have hw5:=wrap_succ hlj hbm
     have hmu5 : x.body.length - (j + 1) < x.body.length - j:=by omega
     have hG1:=hGs j hlj
     have hst:=fun R L=>(stmtW p hp hx x.body[j] 38 (hbw _ (List.getElem_mem hlj)) (G j) (hGb j hlj)).levW R L
     rw [← hG1] at hst
     generalize hs : x.body[j] = s at *
     simp [hlj,hlj',hs,stEnc]
     refine ⟨_,_,hst _ _,?_⟩
     simp
     exact ⟨j + 1,hlj,hmu5,hw5,rfl⟩
    ·have hlj' : ¬ (j : Int) < (x.body.length : Int):=by omega
     have hj2 : j = x.body.length:=by omega
     subst hj2
     rw [← hg]
     simp [hlj']
     refine ⟨_,_,hex _ _,?_⟩
     by_cases h60 : g2.vars.length ≤ 60
     ·have h6 : ¬ (60 : Int) < (g2.vars.length : Int):=by omega
      have hwl : wrongL (decide (g2.vars.length ≤ 60)) 4 x.pos = []:=by rw [decide_eq_true h60]; simp [wrongL]
      simp [levW,levI,wkC,h6,hwl]
     ·have h6 : (60 : Int) < (g2.vars.length : Int):=by omega
      have hwl : wrongL (decide (g2.vars.length ≤ 60)) 4 x.pos = [(4,x.pos)]:=by rw [decide_eq_false h60]; rfl
      simp [levW,levI,wkC,h6,hwl]
      refine ⟨_,_,hw4 (.rsl 0 3 g2.vars.length 2) (I g2.opn) (rvO g2.vars) _ _,?_⟩
      simp [levI,wkC]
 ·have hd3 : decide (x.kind = 3) = false:=decide_eq_false h3
  have h3b : (x.kind == 3) = false:=by simpa using h3
  have h3c : (x.kind != 3) = true:=by simpa using h3
  rw [hd3] at hix
  have hfc:=hfc false x.name
  simp only [Bool.false_eq_true,if_false] at hfc
  have hir : itemR p q x fl = f2:=by
   unfold itemR
   simp only
   rw [← hbb,if_neg h3,← hf1,← hf2]
  rw [hir]
  refine ADet.after (S':=levI p f2 .any .any (.row 117 2 0 []) :: R) ⟨by
   simp [levI,wkC,wkL,wkR]
   exact ⟨⟨⟨rfl,rfl,rfl⟩,wkR_refl _⟩,trivial⟩,rfl⟩ ?_
  refine ADet.intro mixed Tryz.call35 Tryz.func35 rfl ?_
  simp [Tryz.ntmps35,levI,wkC,hq,hq',hxe,It.enc,h3,h3b]
  refine awp_draw [] (by kernel_rfl) (by kernel_rfl) ?_
  simp
  refine ⟨_,_,hfc _,?_⟩
  cases bb with
  | true =>
   have e : f1 = fl:=by rw [hf1]; simp [wrongL]
   subst e
   simp [hix]
   refine ⟨_,_,hfi .any .any (.row 117 2 0 []) _ _,?_⟩
   simp [levI,wkC,h3,h3c]
  | false =>
   have e : fl ++ [(60,x.pos)] = f1:=by rw [hf1]; rfl
   rw [e] at hwr
   simp [hix]
   refine ⟨_,_,hwr .any .any (.row 117 2 0 []) _ _,?_⟩
   simp [levI,wkC]
   refine ⟨_,_,hfi .any .any (.row 117 2 0 []) _ _,?_⟩
   simp [levI,wkC,h3,h3c]
end Go.Proofs.YtfbpibkpmcceaaaGreatDoor
